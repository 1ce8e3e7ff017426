/- Move: rectangles, what is clipped, and the examples. -/
import Derived.Test.YtbdifnmadaggaaaC
namespace Go.Proofs.Ytbdifnmadaggaaa
open Go Go.Eng
set_option linter.unusedVariables false
set_option linter.unusedSimpArgs false

def tb11 : Tbl := (10, .pure spotH) :: (11, .pure rSpotH) :: (32, .pure leftH) :: tb10

theorem tb11_ok : TblOk Try.prog tb11 := ⟨spot_ok, rSpot_ok, left_ok, tb10_ok⟩

def goodR (k a c t l b r : Int) : Bool := rightF k a c && okR t l b r
def spA (k t l : Int) : Int := if rowsF k then t else l
def spB (k b r : Int) : Int := if rowsF k then b else r
def rcA (k a c t l b r : Int) : Int := lfA k a c (spA k t l) (spB k b r)
def rcB (k a c t l b r : Int) : Int := lfB k a c (spA k t l) (spB k b r)
def rcOk (k a c t l b r : Int) : Bool := goodR k a c t l b r && !(decide (rcA k a c t l b r = 0) && decide (rcB k a c t l b r = 0))
def rcT (k a c t l b r : Int) : Int := ifB (rcOk k a c t l b r) (if rowsF k then rcA k a c t l b r else t) 0
def rcL (k a c t l b r : Int) : Int := ifB (rcOk k a c t l b r) (if rowsF k then l else rcA k a c t l b r) 0
def rcD (k a c t l b r : Int) : Int := ifB (rcOk k a c t l b r) (if rowsF k then rcB k a c t l b r else b) 0
def rcR (k a c t l b r : Int) : Int := ifB (rcOk k a c t l b r) (if rowsF k then r else rcB k a c t l b r) 0


set_option maxRecDepth 100000 in
theorem rect_vc (k a c t l b r : Int) {R : AV → Prop} (h : (∀ (n1 n2 n3 : Nat), n1 = n1 ∧ br (ifB (rightF k a c) 0 2 != 0) (n3 = n3 ∧ n3 = n3 ∧ R (AV.tup [AV.agg [AV.v (Value.int IntKind.i64 0), AV.v (Value.int IntKind.i64 0), AV.v (Value.int IntKind.i64 0), AV.v (Value.int IntKind.i64 0)], AV.v (Value.bool false), AV.v (Value.int IntKind.i64 2)])) (n2 = n2 ∧ br (ifB (okR t l b r) 0 2 != 0) (n3 = n3 ∧ n3 = n3 ∧ R (AV.tup [AV.agg [AV.v (Value.int IntKind.i64 0), AV.v (Value.int IntKind.i64 0), AV.v (Value.int IntKind.i64 0), AV.v (Value.int IntKind.i64 0)], AV.v (Value.bool false), AV.v (Value.int IntKind.i64 2)])) (n2 = n2 ∧ n2 = n2 ∧ ∀ (n4 : Nat), n4 = n4 ∧ n1 = n1 ∧ br (rowsF k) (n2 = n2 ∧ n2 = n2 ∧ n4 = n4 ∧ n4 = n4 ∧ n1 = n1 ∧ n4 = n4 ∧ n4 = n4 ∧ br (lfA k a c t b == 0 && (lfB k a c t b == 0 && true)) (n3 = n3 ∧ n3 = n3 ∧ R (AV.tup [AV.agg [AV.v (Value.int IntKind.i64 0), AV.v (Value.int IntKind.i64 0), AV.v (Value.int IntKind.i64 0), AV.v (Value.int IntKind.i64 0)], AV.v (Value.bool false), AV.v (Value.int IntKind.i64 0)])) (n1 = n1 ∧ br (rowsF k) (n4 = n4 ∧ n4 = n4 ∧ n2 = n2 ∧ some (Blk.mk n4 (Cont.cells [AV.v (Value.int IntKind.i64 (lfA k a c t b)), AV.v (Value.int IntKind.i64 (lfB k a c t b))] 68) true) = some (Blk.mk n4 (Cont.cells [AV.v (Value.int IntKind.i64 (lfA k a c t b)), AV.v (Value.int IntKind.i64 (lfB k a c t b))] 68) true) ∧ n2 = n2 ∧ n2 = n2 ∧ n3 = n3 ∧ n3 = n3 ∧ R (AV.tup [AV.agg [AV.v (Value.int IntKind.i64 (lfA k a c t b)), AV.v (Value.int IntKind.i64 l), AV.v (Value.int IntKind.i64 (lfB k a c t b)), AV.v (Value.int IntKind.i64 r)], AV.v (Value.bool true), AV.v (Value.int IntKind.i64 0)])) (n4 = n4 ∧ n4 = n4 ∧ n2 = n2 ∧ some (Blk.mk n4 (Cont.cells [AV.v (Value.int IntKind.i64 (lfA k a c t b)), AV.v (Value.int IntKind.i64 (lfB k a c t b))] 68) true) = some (Blk.mk n4 (Cont.cells [AV.v (Value.int IntKind.i64 (lfA k a c t b)), AV.v (Value.int IntKind.i64 (lfB k a c t b))] 68) true) ∧ n2 = n2 ∧ n2 = n2 ∧ n3 = n3 ∧ n3 = n3 ∧ R (AV.tup [AV.agg [AV.v (Value.int IntKind.i64 t), AV.v (Value.int IntKind.i64 (lfA k a c t b)), AV.v (Value.int IntKind.i64 b), AV.v (Value.int IntKind.i64 (lfB k a c t b))], AV.v (Value.bool true), AV.v (Value.int IntKind.i64 0)])))) (n4 = n4 ∧ n1 = n1 ∧ n4 = n4 ∧ n4 = n4 ∧ br (lfA k a c l r == 0 && (lfB k a c l r == 0 && true)) (n3 = n3 ∧ n3 = n3 ∧ R (AV.tup [AV.agg [AV.v (Value.int IntKind.i64 0), AV.v (Value.int IntKind.i64 0), AV.v (Value.int IntKind.i64 0), AV.v (Value.int IntKind.i64 0)], AV.v (Value.bool false), AV.v (Value.int IntKind.i64 0)])) (n1 = n1 ∧ br (rowsF k) (n4 = n4 ∧ n4 = n4 ∧ n2 = n2 ∧ some (Blk.mk n4 (Cont.cells [AV.v (Value.int IntKind.i64 (lfA k a c l r)), AV.v (Value.int IntKind.i64 (lfB k a c l r))] 68) true) = some (Blk.mk n4 (Cont.cells [AV.v (Value.int IntKind.i64 (lfA k a c l r)), AV.v (Value.int IntKind.i64 (lfB k a c l r))] 68) true) ∧ n2 = n2 ∧ n2 = n2 ∧ n3 = n3 ∧ n3 = n3 ∧ R (AV.tup [AV.agg [AV.v (Value.int IntKind.i64 (lfA k a c l r)), AV.v (Value.int IntKind.i64 l), AV.v (Value.int IntKind.i64 (lfB k a c l r)), AV.v (Value.int IntKind.i64 r)], AV.v (Value.bool true), AV.v (Value.int IntKind.i64 0)])) (n4 = n4 ∧ n4 = n4 ∧ n2 = n2 ∧ some (Blk.mk n4 (Cont.cells [AV.v (Value.int IntKind.i64 (lfA k a c l r)), AV.v (Value.int IntKind.i64 (lfB k a c l r))] 68) true) = some (Blk.mk n4 (Cont.cells [AV.v (Value.int IntKind.i64 (lfA k a c l r)), AV.v (Value.int IntKind.i64 (lfB k a c l r))] 68) true) ∧ n2 = n2 ∧ n2 = n2 ∧ n3 = n3 ∧ n3 = n3 ∧ R (AV.tup [AV.agg [AV.v (Value.int IntKind.i64 t), AV.v (Value.int IntKind.i64 (lfA k a c l r)), AV.v (Value.int IntKind.i64 b), AV.v (Value.int IntKind.i64 (lfB k a c l r))], AV.v (Value.bool true), AV.v (Value.int IntKind.i64 0)])))))))) : LC Try.prog 17 [.agg [.v (.int .i64 k), .v (.int .i64 a), .v (.int .i64 c)], .agg [.v (.int .i64 t), .v (.int .i64 l), .v (.int .i64 b), .v (.int .i64 r)]] [] (fun z_ _ => R z_) :=
  lc_of_exec (tbl := tb11) tab_ok tb11_ok mixed noinv _ Try.func17 rfl Try.ntmps17 (by decide) (by kernel_rfl) (Nat.le_of_ble_eq_true rfl) (Eq.mpr (by kernel_rfl : exec tab tb11 noinv 0 (body Try.f17) (argsT [.agg [.v (.int .i64 k), .v (.int .i64 a), .v (.int .i64 c)], .agg [.v (.int .i64 t), .v (.int .i64 l), .v (.int .i64 b), .v (.int .i64 r)]] 0) [] (post Try.f17 tab (fun z_ _ => R z_)) = (∀ (n1 n2 n3 : Nat), n1 = n1 ∧ br (ifB (rightF k a c) 0 2 != 0) (n3 = n3 ∧ n3 = n3 ∧ R (AV.tup [AV.agg [AV.v (Value.int IntKind.i64 0), AV.v (Value.int IntKind.i64 0), AV.v (Value.int IntKind.i64 0), AV.v (Value.int IntKind.i64 0)], AV.v (Value.bool false), AV.v (Value.int IntKind.i64 2)])) (n2 = n2 ∧ br (ifB (okR t l b r) 0 2 != 0) (n3 = n3 ∧ n3 = n3 ∧ R (AV.tup [AV.agg [AV.v (Value.int IntKind.i64 0), AV.v (Value.int IntKind.i64 0), AV.v (Value.int IntKind.i64 0), AV.v (Value.int IntKind.i64 0)], AV.v (Value.bool false), AV.v (Value.int IntKind.i64 2)])) (n2 = n2 ∧ n2 = n2 ∧ ∀ (n4 : Nat), n4 = n4 ∧ n1 = n1 ∧ br (rowsF k) (n2 = n2 ∧ n2 = n2 ∧ n4 = n4 ∧ n4 = n4 ∧ n1 = n1 ∧ n4 = n4 ∧ n4 = n4 ∧ br (lfA k a c t b == 0 && (lfB k a c t b == 0 && true)) (n3 = n3 ∧ n3 = n3 ∧ R (AV.tup [AV.agg [AV.v (Value.int IntKind.i64 0), AV.v (Value.int IntKind.i64 0), AV.v (Value.int IntKind.i64 0), AV.v (Value.int IntKind.i64 0)], AV.v (Value.bool false), AV.v (Value.int IntKind.i64 0)])) (n1 = n1 ∧ br (rowsF k) (n4 = n4 ∧ n4 = n4 ∧ n2 = n2 ∧ some (Blk.mk n4 (Cont.cells [AV.v (Value.int IntKind.i64 (lfA k a c t b)), AV.v (Value.int IntKind.i64 (lfB k a c t b))] 68) true) = some (Blk.mk n4 (Cont.cells [AV.v (Value.int IntKind.i64 (lfA k a c t b)), AV.v (Value.int IntKind.i64 (lfB k a c t b))] 68) true) ∧ n2 = n2 ∧ n2 = n2 ∧ n3 = n3 ∧ n3 = n3 ∧ R (AV.tup [AV.agg [AV.v (Value.int IntKind.i64 (lfA k a c t b)), AV.v (Value.int IntKind.i64 l), AV.v (Value.int IntKind.i64 (lfB k a c t b)), AV.v (Value.int IntKind.i64 r)], AV.v (Value.bool true), AV.v (Value.int IntKind.i64 0)])) (n4 = n4 ∧ n4 = n4 ∧ n2 = n2 ∧ some (Blk.mk n4 (Cont.cells [AV.v (Value.int IntKind.i64 (lfA k a c t b)), AV.v (Value.int IntKind.i64 (lfB k a c t b))] 68) true) = some (Blk.mk n4 (Cont.cells [AV.v (Value.int IntKind.i64 (lfA k a c t b)), AV.v (Value.int IntKind.i64 (lfB k a c t b))] 68) true) ∧ n2 = n2 ∧ n2 = n2 ∧ n3 = n3 ∧ n3 = n3 ∧ R (AV.tup [AV.agg [AV.v (Value.int IntKind.i64 t), AV.v (Value.int IntKind.i64 (lfA k a c t b)), AV.v (Value.int IntKind.i64 b), AV.v (Value.int IntKind.i64 (lfB k a c t b))], AV.v (Value.bool true), AV.v (Value.int IntKind.i64 0)])))) (n4 = n4 ∧ n1 = n1 ∧ n4 = n4 ∧ n4 = n4 ∧ br (lfA k a c l r == 0 && (lfB k a c l r == 0 && true)) (n3 = n3 ∧ n3 = n3 ∧ R (AV.tup [AV.agg [AV.v (Value.int IntKind.i64 0), AV.v (Value.int IntKind.i64 0), AV.v (Value.int IntKind.i64 0), AV.v (Value.int IntKind.i64 0)], AV.v (Value.bool false), AV.v (Value.int IntKind.i64 0)])) (n1 = n1 ∧ br (rowsF k) (n4 = n4 ∧ n4 = n4 ∧ n2 = n2 ∧ some (Blk.mk n4 (Cont.cells [AV.v (Value.int IntKind.i64 (lfA k a c l r)), AV.v (Value.int IntKind.i64 (lfB k a c l r))] 68) true) = some (Blk.mk n4 (Cont.cells [AV.v (Value.int IntKind.i64 (lfA k a c l r)), AV.v (Value.int IntKind.i64 (lfB k a c l r))] 68) true) ∧ n2 = n2 ∧ n2 = n2 ∧ n3 = n3 ∧ n3 = n3 ∧ R (AV.tup [AV.agg [AV.v (Value.int IntKind.i64 (lfA k a c l r)), AV.v (Value.int IntKind.i64 l), AV.v (Value.int IntKind.i64 (lfB k a c l r)), AV.v (Value.int IntKind.i64 r)], AV.v (Value.bool true), AV.v (Value.int IntKind.i64 0)])) (n4 = n4 ∧ n4 = n4 ∧ n2 = n2 ∧ some (Blk.mk n4 (Cont.cells [AV.v (Value.int IntKind.i64 (lfA k a c l r)), AV.v (Value.int IntKind.i64 (lfB k a c l r))] 68) true) = some (Blk.mk n4 (Cont.cells [AV.v (Value.int IntKind.i64 (lfA k a c l r)), AV.v (Value.int IntKind.i64 (lfB k a c l r))] 68) true) ∧ n2 = n2 ∧ n2 = n2 ∧ n3 = n3 ∧ n3 = n3 ∧ R (AV.tup [AV.agg [AV.v (Value.int IntKind.i64 t), AV.v (Value.int IntKind.i64 (lfA k a c l r)), AV.v (Value.int IntKind.i64 b), AV.v (Value.int IntKind.i64 (lfB k a c l r))], AV.v (Value.bool true), AV.v (Value.int IntKind.i64 0)])))))))) h)

set_option maxRecDepth 100000 in
theorem rect_lc (k a c t l b r : Int) : LC Try.prog 17 [.agg [.v (.int .i64 k), .v (.int .i64 a), .v (.int .i64 c)], .agg [.v (.int .i64 t), .v (.int .i64 l), .v (.int .i64 b), .v (.int .i64 r)]] [] (fun z_ _ => z_ = .tup [.agg [.v (.int .i64 (rcT k a c t l b r)), .v (.int .i64 (rcL k a c t l b r)), .v (.int .i64 (rcD k a c t l b r)), .v (.int .i64 (rcR k a c t l b r))], .v (.bool (rcOk k a c t l b r)), .v (.int .i64 (ifB (goodR k a c t l b r) 0 2))]) :=
  rect_vc k a c t l b r (by
    intros
    simp only [true_and, and_true, br_iff, AV.v.injEq, AV.tup.injEq, AV.agg.injEq, List.cons.injEq, Value.bool.injEq, Value.int.injEq, decide_eq_true_eq, decide_eq_false_iff_not, ifB, rcT, rcL, rcD, rcR, rcOk, rcA, rcB, spA, spB, goodR]
    repeat' (first | (refine ⟨?_, ?_⟩) | intro _)
    all_goals (first | trivial | omega | (simp_all; done) | (simp_all; omega) | (rw [Bool.eq_iff_iff]; simp (config := {failIfUnchanged := false}) only [decide_eq_true_eq, Bool.false_eq_true, false_iff, iff_false, true_iff, iff_true, Bool.and_eq_true, Bool.or_eq_true]; omega) | (simp_all; rw [Bool.eq_iff_iff]; simp <;> omega)))

def rectH : List AV → Option AV
  | [.agg [.v (.int .i64 k), .v (.int .i64 a), .v (.int .i64 c)], .agg [.v (.int .i64 t), .v (.int .i64 l), .v (.int .i64 b), .v (.int .i64 r)]] => some (.tup [.agg [.v (.int .i64 (rcT k a c t l b r)), .v (.int .i64 (rcL k a c t l b r)), .v (.int .i64 (rcD k a c t l b r)), .v (.int .i64 (rcR k a c t l b r))], .v (.bool (rcOk k a c t l b r)), .v (.int .i64 (ifB (goodR k a c t l b r) 0 2))])
  | _ => none

theorem rect_ok : POk Try.prog 17 rectH := POk.of_lc (rect_lc default default default default default default default).enters (by
  intro args v h
  unfold rectH at h
  split at h
  · cases h; exact rect_lc _ _ _ _ _ _ _
  · cases h)


def clF (k a c t l b r : Int) : Bool := goodR k a c t l b r && (if insF k then decide (stepT k a c (spB k b r) = 2) else decide (spB k b r ≥ a) && decide (spA k t l < IntKind.i64.wrap (a + c)))


set_option maxRecDepth 100000 in
theorem clips_vc (k a c t l b r : Int) {R : AV → Prop} (h : (∀ (n1 n2 : Nat), n1 = n1 ∧ br (ifB (rightF k a c) 0 2 != 0) (R (AV.tup [AV.v (Value.bool false), AV.v (Value.int IntKind.i64 2)])) (n2 = n2 ∧ br (ifB (okR t l b r) 0 2 != 0) (R (AV.tup [AV.v (Value.bool false), AV.v (Value.int IntKind.i64 2)])) (n2 = n2 ∧ n2 = n2 ∧ ∀ (n3 : Nat), n3 = n3 ∧ n1 = n1 ∧ br (rowsF k) (n2 = n2 ∧ n2 = n2 ∧ n3 = n3 ∧ n1 = n1 ∧ br (insF k) (n1 = n1 ∧ ∀ (n4 : Nat), n3 = n3 ∧ n4 = n4 ∧ br (decide (b < a)) (R (AV.tup [AV.v (Value.bool (0 == 2)), AV.v (Value.int IntKind.i64 0)])) (n4 = n4 ∧ br (insF k) (n3 = n3 ∧ n4 = n4 ∧ n3 = n3 ∧ n3 = n3 ∧ n4 = n4 ∧ br (decide (IntKind.i64.wrap (b + c) > mostF k)) (R (AV.tup [AV.v (Value.bool (2 == 2)), AV.v (Value.int IntKind.i64 0)])) (R (AV.tup [AV.v (Value.bool (0 == 2)), AV.v (Value.int IntKind.i64 0)]))) (n3 = n3 ∧ n4 = n4 ∧ n3 = n3 ∧ n3 = n3 ∧ n4 = n4 ∧ br (decide (IntKind.i64.wrap (b - c) < a)) (R (AV.tup [AV.v (Value.bool (1 == 2)), AV.v (Value.int IntKind.i64 0)])) (R (AV.tup [AV.v (Value.bool (0 == 2)), AV.v (Value.int IntKind.i64 0)]))))) (n3 = n3 ∧ n1 = n1 ∧ br (decide (b ≥ a)) (n3 = n3 ∧ n1 = n1 ∧ n1 = n1 ∧ R (AV.tup [AV.v (Value.bool (decide (t < IntKind.i64.wrap (a + c)))), AV.v (Value.int IntKind.i64 0)])) (R (AV.tup [AV.v (Value.bool false), AV.v (Value.int IntKind.i64 0)])))) (n1 = n1 ∧ br (insF k) (n1 = n1 ∧ ∀ (n4 : Nat), n3 = n3 ∧ n4 = n4 ∧ br (decide (r < a)) (R (AV.tup [AV.v (Value.bool (0 == 2)), AV.v (Value.int IntKind.i64 0)])) (n4 = n4 ∧ br (insF k) (n3 = n3 ∧ n4 = n4 ∧ n3 = n3 ∧ n3 = n3 ∧ n4 = n4 ∧ br (decide (IntKind.i64.wrap (r + c) > mostF k)) (R (AV.tup [AV.v (Value.bool (2 == 2)), AV.v (Value.int IntKind.i64 0)])) (R (AV.tup [AV.v (Value.bool (0 == 2)), AV.v (Value.int IntKind.i64 0)]))) (n3 = n3 ∧ n4 = n4 ∧ n3 = n3 ∧ n3 = n3 ∧ n4 = n4 ∧ br (decide (IntKind.i64.wrap (r - c) < a)) (R (AV.tup [AV.v (Value.bool (1 == 2)), AV.v (Value.int IntKind.i64 0)])) (R (AV.tup [AV.v (Value.bool (0 == 2)), AV.v (Value.int IntKind.i64 0)]))))) (n3 = n3 ∧ n1 = n1 ∧ br (decide (r ≥ a)) (n3 = n3 ∧ n1 = n1 ∧ n1 = n1 ∧ R (AV.tup [AV.v (Value.bool (decide (l < IntKind.i64.wrap (a + c)))), AV.v (Value.int IntKind.i64 0)])) (R (AV.tup [AV.v (Value.bool false), AV.v (Value.int IntKind.i64 0)])))))))) : LC Try.prog 21 [.agg [.v (.int .i64 k), .v (.int .i64 a), .v (.int .i64 c)], .agg [.v (.int .i64 t), .v (.int .i64 l), .v (.int .i64 b), .v (.int .i64 r)]] [] (fun z_ _ => R z_) :=
  lc_of_exec (tbl := tb11) tab_ok tb11_ok mixed noinv _ Try.func21 rfl Try.ntmps21 (by decide) (by kernel_rfl) (Nat.le_of_ble_eq_true rfl) (Eq.mpr (by kernel_rfl : exec tab tb11 noinv 0 (body Try.f21) (argsT [.agg [.v (.int .i64 k), .v (.int .i64 a), .v (.int .i64 c)], .agg [.v (.int .i64 t), .v (.int .i64 l), .v (.int .i64 b), .v (.int .i64 r)]] 0) [] (post Try.f21 tab (fun z_ _ => R z_)) = (∀ (n1 n2 : Nat), n1 = n1 ∧ br (ifB (rightF k a c) 0 2 != 0) (R (AV.tup [AV.v (Value.bool false), AV.v (Value.int IntKind.i64 2)])) (n2 = n2 ∧ br (ifB (okR t l b r) 0 2 != 0) (R (AV.tup [AV.v (Value.bool false), AV.v (Value.int IntKind.i64 2)])) (n2 = n2 ∧ n2 = n2 ∧ ∀ (n3 : Nat), n3 = n3 ∧ n1 = n1 ∧ br (rowsF k) (n2 = n2 ∧ n2 = n2 ∧ n3 = n3 ∧ n1 = n1 ∧ br (insF k) (n1 = n1 ∧ ∀ (n4 : Nat), n3 = n3 ∧ n4 = n4 ∧ br (decide (b < a)) (R (AV.tup [AV.v (Value.bool (0 == 2)), AV.v (Value.int IntKind.i64 0)])) (n4 = n4 ∧ br (insF k) (n3 = n3 ∧ n4 = n4 ∧ n3 = n3 ∧ n3 = n3 ∧ n4 = n4 ∧ br (decide (IntKind.i64.wrap (b + c) > mostF k)) (R (AV.tup [AV.v (Value.bool (2 == 2)), AV.v (Value.int IntKind.i64 0)])) (R (AV.tup [AV.v (Value.bool (0 == 2)), AV.v (Value.int IntKind.i64 0)]))) (n3 = n3 ∧ n4 = n4 ∧ n3 = n3 ∧ n3 = n3 ∧ n4 = n4 ∧ br (decide (IntKind.i64.wrap (b - c) < a)) (R (AV.tup [AV.v (Value.bool (1 == 2)), AV.v (Value.int IntKind.i64 0)])) (R (AV.tup [AV.v (Value.bool (0 == 2)), AV.v (Value.int IntKind.i64 0)]))))) (n3 = n3 ∧ n1 = n1 ∧ br (decide (b ≥ a)) (n3 = n3 ∧ n1 = n1 ∧ n1 = n1 ∧ R (AV.tup [AV.v (Value.bool (decide (t < IntKind.i64.wrap (a + c)))), AV.v (Value.int IntKind.i64 0)])) (R (AV.tup [AV.v (Value.bool false), AV.v (Value.int IntKind.i64 0)])))) (n1 = n1 ∧ br (insF k) (n1 = n1 ∧ ∀ (n4 : Nat), n3 = n3 ∧ n4 = n4 ∧ br (decide (r < a)) (R (AV.tup [AV.v (Value.bool (0 == 2)), AV.v (Value.int IntKind.i64 0)])) (n4 = n4 ∧ br (insF k) (n3 = n3 ∧ n4 = n4 ∧ n3 = n3 ∧ n3 = n3 ∧ n4 = n4 ∧ br (decide (IntKind.i64.wrap (r + c) > mostF k)) (R (AV.tup [AV.v (Value.bool (2 == 2)), AV.v (Value.int IntKind.i64 0)])) (R (AV.tup [AV.v (Value.bool (0 == 2)), AV.v (Value.int IntKind.i64 0)]))) (n3 = n3 ∧ n4 = n4 ∧ n3 = n3 ∧ n3 = n3 ∧ n4 = n4 ∧ br (decide (IntKind.i64.wrap (r - c) < a)) (R (AV.tup [AV.v (Value.bool (1 == 2)), AV.v (Value.int IntKind.i64 0)])) (R (AV.tup [AV.v (Value.bool (0 == 2)), AV.v (Value.int IntKind.i64 0)]))))) (n3 = n3 ∧ n1 = n1 ∧ br (decide (r ≥ a)) (n3 = n3 ∧ n1 = n1 ∧ n1 = n1 ∧ R (AV.tup [AV.v (Value.bool (decide (l < IntKind.i64.wrap (a + c)))), AV.v (Value.int IntKind.i64 0)])) (R (AV.tup [AV.v (Value.bool false), AV.v (Value.int IntKind.i64 0)])))))))) h)

set_option maxRecDepth 100000 in
theorem clips_lc (k a c t l b r : Int) : LC Try.prog 21 [.agg [.v (.int .i64 k), .v (.int .i64 a), .v (.int .i64 c)], .agg [.v (.int .i64 t), .v (.int .i64 l), .v (.int .i64 b), .v (.int .i64 r)]] [] (fun z_ _ => z_ = .tup [.v (.bool (clF k a c t l b r)), .v (.int .i64 (ifB (goodR k a c t l b r) 0 2))]) :=
  clips_vc k a c t l b r (by
    intros
    simp only [true_and, and_true, br_iff, AV.v.injEq, AV.tup.injEq, AV.agg.injEq, List.cons.injEq, Value.bool.injEq, Value.int.injEq, decide_eq_true_eq, decide_eq_false_iff_not, ifB, clF, spA, spB, goodR, stepT]
    repeat' (first | (refine ⟨?_, ?_⟩) | intro _)
    all_goals (first | trivial | omega | (simp_all; done) | (simp_all; omega) | (rw [Bool.eq_iff_iff]; simp (config := {failIfUnchanged := false}) only [decide_eq_true_eq, Bool.false_eq_true, false_iff, iff_false, true_iff, iff_true, Bool.and_eq_true, Bool.or_eq_true]; omega) | (simp_all; rw [Bool.eq_iff_iff]; simp <;> omega)))

def clipsH : List AV → Option AV
  | [.agg [.v (.int .i64 k), .v (.int .i64 a), .v (.int .i64 c)], .agg [.v (.int .i64 t), .v (.int .i64 l), .v (.int .i64 b), .v (.int .i64 r)]] => some (.tup [.v (.bool (clF k a c t l b r)), .v (.int .i64 (ifB (goodR k a c t l b r) 0 2))])
  | _ => none

theorem clips_ok : POk Try.prog 21 clipsH := POk.of_lc (clips_lc default default default default default default default).enters (by
  intro args v h
  unfold clipsH at h
  split at h
  · cases h; exact clips_lc _ _ _ _ _ _ _
  · cases h)


def enOk (k a c f l : Int) : Bool := if lnT k a c f = 1 then !decide (l < IntKind.i64.wrap (a + c)) && !decide (lnT k a c (IntKind.i64.wrap (a + c)) = 2) else !decide (lnT k a c f = 2)
def enA (k a c f l : Int) : Int := ifB (enOk k a c f l) (if lnT k a c f = 1 then lnN k a c (IntKind.i64.wrap (a + c)) else lnN k a c f) 0
def enB (k a c f l : Int) : Int := ifB (enOk k a c f l) (if lnT k a c l = 1 then IntKind.i64.wrap (a - 1) else if lnT k a c l = 2 then (if f < a ∧ IntKind.i64.wrap (a + c) > mostF k then IntKind.i64.wrap (a - 1) else mostF k) else lnN k a c l) 0


set_option maxRecDepth 100000 in
theorem ends_vc (k a c f l : Int) {R : AV → Prop} (h : (∀ (n1 : Nat), n1 = n1 ∧ br (lnT k a c f == 1) (n1 = n1 ∧ n1 = n1 ∧ br (decide (l < IntKind.i64.wrap (a + c))) (R (AV.tup [AV.v (Value.int IntKind.i64 0), AV.v (Value.int IntKind.i64 0), AV.v (Value.bool false)])) (n1 = n1 ∧ n1 = n1 ∧ n1 = n1 ∧ br (lnT k a c (IntKind.i64.wrap (a + c)) == 2) (R (AV.tup [AV.v (Value.int IntKind.i64 0), AV.v (Value.int IntKind.i64 0), AV.v (Value.bool false)])) (n1 = n1 ∧ br (lnT k a c l == 1) (n1 = n1 ∧ R (AV.tup [AV.v (Value.int IntKind.i64 (lnN k a c (IntKind.i64.wrap (a + c)))), AV.v (Value.int IntKind.i64 (IntKind.i64.wrap (a - 1))), AV.v (Value.bool true)])) (br (lnT k a c l == 2) (n1 = n1 ∧ n1 = n1 ∧ br (decide (f < a)) (n1 = n1 ∧ n1 = n1 ∧ n1 = n1 ∧ br (decide (IntKind.i64.wrap (a + c) > mostF k)) (n1 = n1 ∧ R (AV.tup [AV.v (Value.int IntKind.i64 (lnN k a c (IntKind.i64.wrap (a + c)))), AV.v (Value.int IntKind.i64 (IntKind.i64.wrap (a - 1))), AV.v (Value.bool true)])) (R (AV.tup [AV.v (Value.int IntKind.i64 (lnN k a c (IntKind.i64.wrap (a + c)))), AV.v (Value.int IntKind.i64 (mostF k)), AV.v (Value.bool true)]))) (R (AV.tup [AV.v (Value.int IntKind.i64 (lnN k a c (IntKind.i64.wrap (a + c)))), AV.v (Value.int IntKind.i64 (mostF k)), AV.v (Value.bool true)]))) (R (AV.tup [AV.v (Value.int IntKind.i64 (lnN k a c (IntKind.i64.wrap (a + c)))), AV.v (Value.int IntKind.i64 (lnN k a c l)), AV.v (Value.bool true)])))))) (br (lnT k a c f == 2) (R (AV.tup [AV.v (Value.int IntKind.i64 0), AV.v (Value.int IntKind.i64 0), AV.v (Value.bool false)])) (n1 = n1 ∧ br (lnT k a c l == 1) (n1 = n1 ∧ R (AV.tup [AV.v (Value.int IntKind.i64 (lnN k a c f)), AV.v (Value.int IntKind.i64 (IntKind.i64.wrap (a - 1))), AV.v (Value.bool true)])) (br (lnT k a c l == 2) (n1 = n1 ∧ n1 = n1 ∧ br (decide (f < a)) (n1 = n1 ∧ n1 = n1 ∧ n1 = n1 ∧ br (decide (IntKind.i64.wrap (a + c) > mostF k)) (n1 = n1 ∧ R (AV.tup [AV.v (Value.int IntKind.i64 (lnN k a c f)), AV.v (Value.int IntKind.i64 (IntKind.i64.wrap (a - 1))), AV.v (Value.bool true)])) (R (AV.tup [AV.v (Value.int IntKind.i64 (lnN k a c f)), AV.v (Value.int IntKind.i64 (mostF k)), AV.v (Value.bool true)]))) (R (AV.tup [AV.v (Value.int IntKind.i64 (lnN k a c f)), AV.v (Value.int IntKind.i64 (mostF k)), AV.v (Value.bool true)]))) (R (AV.tup [AV.v (Value.int IntKind.i64 (lnN k a c f)), AV.v (Value.int IntKind.i64 (lnN k a c l)), AV.v (Value.bool true)]))))))) : LC Try.prog 34 [.agg [.v (.int .i64 k), .v (.int .i64 a), .v (.int .i64 c)], .v (.int .i64 f), .v (.int .i64 l)] [] (fun z_ _ => R z_) :=
  lc_of_exec (tbl := tb11) tab_ok tb11_ok mixed noinv _ Try.func34 rfl Try.ntmps34 (by decide) (by kernel_rfl) (Nat.le_of_ble_eq_true rfl) (Eq.mpr (by kernel_rfl : exec tab tb11 noinv 0 (body Try.f34) (argsT [.agg [.v (.int .i64 k), .v (.int .i64 a), .v (.int .i64 c)], .v (.int .i64 f), .v (.int .i64 l)] 0) [] (post Try.f34 tab (fun z_ _ => R z_)) = (∀ (n1 : Nat), n1 = n1 ∧ br (lnT k a c f == 1) (n1 = n1 ∧ n1 = n1 ∧ br (decide (l < IntKind.i64.wrap (a + c))) (R (AV.tup [AV.v (Value.int IntKind.i64 0), AV.v (Value.int IntKind.i64 0), AV.v (Value.bool false)])) (n1 = n1 ∧ n1 = n1 ∧ n1 = n1 ∧ br (lnT k a c (IntKind.i64.wrap (a + c)) == 2) (R (AV.tup [AV.v (Value.int IntKind.i64 0), AV.v (Value.int IntKind.i64 0), AV.v (Value.bool false)])) (n1 = n1 ∧ br (lnT k a c l == 1) (n1 = n1 ∧ R (AV.tup [AV.v (Value.int IntKind.i64 (lnN k a c (IntKind.i64.wrap (a + c)))), AV.v (Value.int IntKind.i64 (IntKind.i64.wrap (a - 1))), AV.v (Value.bool true)])) (br (lnT k a c l == 2) (n1 = n1 ∧ n1 = n1 ∧ br (decide (f < a)) (n1 = n1 ∧ n1 = n1 ∧ n1 = n1 ∧ br (decide (IntKind.i64.wrap (a + c) > mostF k)) (n1 = n1 ∧ R (AV.tup [AV.v (Value.int IntKind.i64 (lnN k a c (IntKind.i64.wrap (a + c)))), AV.v (Value.int IntKind.i64 (IntKind.i64.wrap (a - 1))), AV.v (Value.bool true)])) (R (AV.tup [AV.v (Value.int IntKind.i64 (lnN k a c (IntKind.i64.wrap (a + c)))), AV.v (Value.int IntKind.i64 (mostF k)), AV.v (Value.bool true)]))) (R (AV.tup [AV.v (Value.int IntKind.i64 (lnN k a c (IntKind.i64.wrap (a + c)))), AV.v (Value.int IntKind.i64 (mostF k)), AV.v (Value.bool true)]))) (R (AV.tup [AV.v (Value.int IntKind.i64 (lnN k a c (IntKind.i64.wrap (a + c)))), AV.v (Value.int IntKind.i64 (lnN k a c l)), AV.v (Value.bool true)])))))) (br (lnT k a c f == 2) (R (AV.tup [AV.v (Value.int IntKind.i64 0), AV.v (Value.int IntKind.i64 0), AV.v (Value.bool false)])) (n1 = n1 ∧ br (lnT k a c l == 1) (n1 = n1 ∧ R (AV.tup [AV.v (Value.int IntKind.i64 (lnN k a c f)), AV.v (Value.int IntKind.i64 (IntKind.i64.wrap (a - 1))), AV.v (Value.bool true)])) (br (lnT k a c l == 2) (n1 = n1 ∧ n1 = n1 ∧ br (decide (f < a)) (n1 = n1 ∧ n1 = n1 ∧ n1 = n1 ∧ br (decide (IntKind.i64.wrap (a + c) > mostF k)) (n1 = n1 ∧ R (AV.tup [AV.v (Value.int IntKind.i64 (lnN k a c f)), AV.v (Value.int IntKind.i64 (IntKind.i64.wrap (a - 1))), AV.v (Value.bool true)])) (R (AV.tup [AV.v (Value.int IntKind.i64 (lnN k a c f)), AV.v (Value.int IntKind.i64 (mostF k)), AV.v (Value.bool true)]))) (R (AV.tup [AV.v (Value.int IntKind.i64 (lnN k a c f)), AV.v (Value.int IntKind.i64 (mostF k)), AV.v (Value.bool true)]))) (R (AV.tup [AV.v (Value.int IntKind.i64 (lnN k a c f)), AV.v (Value.int IntKind.i64 (lnN k a c l)), AV.v (Value.bool true)]))))))) h)

set_option maxRecDepth 100000 in
theorem ends_lc (k a c f l : Int) : LC Try.prog 34 [.agg [.v (.int .i64 k), .v (.int .i64 a), .v (.int .i64 c)], .v (.int .i64 f), .v (.int .i64 l)] [] (fun z_ _ => z_ = .tup [.v (.int .i64 (enA k a c f l)), .v (.int .i64 (enB k a c f l)), .v (.bool (enOk k a c f l))]) :=
  ends_vc k a c f l (by
    intros
    simp only [true_and, and_true, br_iff, AV.v.injEq, AV.tup.injEq, AV.agg.injEq, List.cons.injEq, Value.bool.injEq, Value.int.injEq, decide_eq_true_eq, decide_eq_false_iff_not, ifB, enA, enB, enOk]
    repeat' (first | (refine ⟨?_, ?_⟩) | intro _)
    all_goals (first | trivial | omega | (simp_all; done) | (simp_all; omega) | (rw [Bool.eq_iff_iff]; simp (config := {failIfUnchanged := false}) only [decide_eq_true_eq, Bool.false_eq_true, false_iff, iff_false, true_iff, iff_true, Bool.and_eq_true, Bool.or_eq_true]; omega) | (simp_all; rw [Bool.eq_iff_iff]; simp <;> omega)))

def endsH : List AV → Option AV
  | [.agg [.v (.int .i64 k), .v (.int .i64 a), .v (.int .i64 c)], .v (.int .i64 f), .v (.int .i64 l)] => some (.tup [.v (.int .i64 (enA k a c f l)), .v (.int .i64 (enB k a c f l)), .v (.bool (enOk k a c f l))])
  | _ => none

theorem ends_ok : POk Try.prog 34 endsH := POk.of_lc (ends_lc default default default default default).enters (by
  intro args v h
  unfold endsH at h
  split at h
  · cases h; exact ends_lc _ _ _ _ _
  · cases h)


def tb12 : Tbl := (17, .pure rectH) :: (21, .pure clipsH) :: (34, .pure endsH) :: tb11

theorem tb12_ok : TblOk Try.prog tb12 := ⟨rect_ok, clips_ok, ends_ok, tb11_ok⟩

def rrOk (k a c t l b r : Int) : Bool := goodR k a c t l b r && enOk k a c (spA k t l) (spB k b r)
def rrT (k a c t l b r : Int) : Int := ifB (rrOk k a c t l b r) (if rowsF k then enA k a c t b else t) 0
def rrL (k a c t l b r : Int) : Int := ifB (rrOk k a c t l b r) (if rowsF k then l else enA k a c l r) 0
def rrD (k a c t l b r : Int) : Int := ifB (rrOk k a c t l b r) (if rowsF k then enB k a c t b else b) 0
def rrR (k a c t l b r : Int) : Int := ifB (rrOk k a c t l b r) (if rowsF k then r else enB k a c l r) 0


set_option maxRecDepth 100000 in
theorem rRect_vc (k a c t l b r : Int) {R : AV → Prop} (h : (∀ (n1 n2 n3 : Nat), n1 = n1 ∧ br (!rightF k a c) (n3 = n3 ∧ n3 = n3 ∧ R (AV.tup [AV.agg [AV.v (Value.int IntKind.i64 0), AV.v (Value.int IntKind.i64 0), AV.v (Value.int IntKind.i64 0), AV.v (Value.int IntKind.i64 0)], AV.v (Value.bool false), AV.v (Value.int IntKind.i64 2)])) (n2 = n2 ∧ br (!okR t l b r) (n3 = n3 ∧ n3 = n3 ∧ R (AV.tup [AV.agg [AV.v (Value.int IntKind.i64 0), AV.v (Value.int IntKind.i64 0), AV.v (Value.int IntKind.i64 0), AV.v (Value.int IntKind.i64 0)], AV.v (Value.bool false), AV.v (Value.int IntKind.i64 2)])) (n1 = n1 ∧ br (rowsF k) (n1 = n1 ∧ n2 = n2 ∧ n2 = n2 ∧ n2 = n2 ∧ n2 = n2 ∧ br (!enOk k a c t b) (n3 = n3 ∧ n3 = n3 ∧ R (AV.tup [AV.agg [AV.v (Value.int IntKind.i64 0), AV.v (Value.int IntKind.i64 0), AV.v (Value.int IntKind.i64 0), AV.v (Value.int IntKind.i64 0)], AV.v (Value.bool false), AV.v (Value.int IntKind.i64 0)])) (n2 = n2 ∧ n3 = n3 ∧ n3 = n3 ∧ R (AV.tup [AV.agg [AV.v (Value.int IntKind.i64 (enA k a c t b)), AV.v (Value.int IntKind.i64 l), AV.v (Value.int IntKind.i64 (enB k a c t b)), AV.v (Value.int IntKind.i64 r)], AV.v (Value.bool true), AV.v (Value.int IntKind.i64 0)]))) (n1 = n1 ∧ n2 = n2 ∧ n2 = n2 ∧ n2 = n2 ∧ n2 = n2 ∧ br (!enOk k a c l r) (n3 = n3 ∧ n3 = n3 ∧ R (AV.tup [AV.agg [AV.v (Value.int IntKind.i64 0), AV.v (Value.int IntKind.i64 0), AV.v (Value.int IntKind.i64 0), AV.v (Value.int IntKind.i64 0)], AV.v (Value.bool false), AV.v (Value.int IntKind.i64 0)])) (n2 = n2 ∧ n3 = n3 ∧ n3 = n3 ∧ R (AV.tup [AV.agg [AV.v (Value.int IntKind.i64 t), AV.v (Value.int IntKind.i64 (enA k a c l r)), AV.v (Value.int IntKind.i64 b), AV.v (Value.int IntKind.i64 (enB k a c l r))], AV.v (Value.bool true), AV.v (Value.int IntKind.i64 0)]))))))) : LC Try.prog 20 [.agg [.v (.int .i64 k), .v (.int .i64 a), .v (.int .i64 c)], .agg [.v (.int .i64 t), .v (.int .i64 l), .v (.int .i64 b), .v (.int .i64 r)]] [] (fun z_ _ => R z_) :=
  lc_of_exec (tbl := tb12) tab_ok tb12_ok mixed noinv _ Try.func20 rfl Try.ntmps20 (by decide) (by kernel_rfl) (Nat.le_of_ble_eq_true rfl) (Eq.mpr (by kernel_rfl : exec tab tb12 noinv 0 (body Try.f20) (argsT [.agg [.v (.int .i64 k), .v (.int .i64 a), .v (.int .i64 c)], .agg [.v (.int .i64 t), .v (.int .i64 l), .v (.int .i64 b), .v (.int .i64 r)]] 0) [] (post Try.f20 tab (fun z_ _ => R z_)) = (∀ (n1 n2 n3 : Nat), n1 = n1 ∧ br (!rightF k a c) (n3 = n3 ∧ n3 = n3 ∧ R (AV.tup [AV.agg [AV.v (Value.int IntKind.i64 0), AV.v (Value.int IntKind.i64 0), AV.v (Value.int IntKind.i64 0), AV.v (Value.int IntKind.i64 0)], AV.v (Value.bool false), AV.v (Value.int IntKind.i64 2)])) (n2 = n2 ∧ br (!okR t l b r) (n3 = n3 ∧ n3 = n3 ∧ R (AV.tup [AV.agg [AV.v (Value.int IntKind.i64 0), AV.v (Value.int IntKind.i64 0), AV.v (Value.int IntKind.i64 0), AV.v (Value.int IntKind.i64 0)], AV.v (Value.bool false), AV.v (Value.int IntKind.i64 2)])) (n1 = n1 ∧ br (rowsF k) (n1 = n1 ∧ n2 = n2 ∧ n2 = n2 ∧ n2 = n2 ∧ n2 = n2 ∧ br (!enOk k a c t b) (n3 = n3 ∧ n3 = n3 ∧ R (AV.tup [AV.agg [AV.v (Value.int IntKind.i64 0), AV.v (Value.int IntKind.i64 0), AV.v (Value.int IntKind.i64 0), AV.v (Value.int IntKind.i64 0)], AV.v (Value.bool false), AV.v (Value.int IntKind.i64 0)])) (n2 = n2 ∧ n3 = n3 ∧ n3 = n3 ∧ R (AV.tup [AV.agg [AV.v (Value.int IntKind.i64 (enA k a c t b)), AV.v (Value.int IntKind.i64 l), AV.v (Value.int IntKind.i64 (enB k a c t b)), AV.v (Value.int IntKind.i64 r)], AV.v (Value.bool true), AV.v (Value.int IntKind.i64 0)]))) (n1 = n1 ∧ n2 = n2 ∧ n2 = n2 ∧ n2 = n2 ∧ n2 = n2 ∧ br (!enOk k a c l r) (n3 = n3 ∧ n3 = n3 ∧ R (AV.tup [AV.agg [AV.v (Value.int IntKind.i64 0), AV.v (Value.int IntKind.i64 0), AV.v (Value.int IntKind.i64 0), AV.v (Value.int IntKind.i64 0)], AV.v (Value.bool false), AV.v (Value.int IntKind.i64 0)])) (n2 = n2 ∧ n3 = n3 ∧ n3 = n3 ∧ R (AV.tup [AV.agg [AV.v (Value.int IntKind.i64 t), AV.v (Value.int IntKind.i64 (enA k a c l r)), AV.v (Value.int IntKind.i64 b), AV.v (Value.int IntKind.i64 (enB k a c l r))], AV.v (Value.bool true), AV.v (Value.int IntKind.i64 0)]))))))) h)

set_option maxRecDepth 100000 in
theorem rRect_lc (k a c t l b r : Int) : LC Try.prog 20 [.agg [.v (.int .i64 k), .v (.int .i64 a), .v (.int .i64 c)], .agg [.v (.int .i64 t), .v (.int .i64 l), .v (.int .i64 b), .v (.int .i64 r)]] [] (fun z_ _ => z_ = .tup [.agg [.v (.int .i64 (rrT k a c t l b r)), .v (.int .i64 (rrL k a c t l b r)), .v (.int .i64 (rrD k a c t l b r)), .v (.int .i64 (rrR k a c t l b r))], .v (.bool (rrOk k a c t l b r)), .v (.int .i64 (ifB (goodR k a c t l b r) 0 2))]) :=
  rRect_vc k a c t l b r (by
    intros
    simp only [true_and, and_true, br_iff, AV.v.injEq, AV.tup.injEq, AV.agg.injEq, List.cons.injEq, Value.bool.injEq, Value.int.injEq, decide_eq_true_eq, decide_eq_false_iff_not, ifB, rrT, rrL, rrD, rrR, rrOk, spA, spB, goodR]
    repeat' (first | (refine ⟨?_, ?_⟩) | intro _)
    all_goals (first | trivial | omega | (simp_all; done) | (simp_all; omega) | (rw [Bool.eq_iff_iff]; simp (config := {failIfUnchanged := false}) only [decide_eq_true_eq, Bool.false_eq_true, false_iff, iff_false, true_iff, iff_true, Bool.and_eq_true, Bool.or_eq_true]; omega) | (simp_all; rw [Bool.eq_iff_iff]; simp <;> omega)))

def rRectH : List AV → Option AV
  | [.agg [.v (.int .i64 k), .v (.int .i64 a), .v (.int .i64 c)], .agg [.v (.int .i64 t), .v (.int .i64 l), .v (.int .i64 b), .v (.int .i64 r)]] => some (.tup [.agg [.v (.int .i64 (rrT k a c t l b r)), .v (.int .i64 (rrL k a c t l b r)), .v (.int .i64 (rrD k a c t l b r)), .v (.int .i64 (rrR k a c t l b r))], .v (.bool (rrOk k a c t l b r)), .v (.int .i64 (ifB (goodR k a c t l b r) 0 2))])
  | _ => none

theorem rRect_ok : POk Try.prog 20 rRectH := POk.of_lc (rRect_lc default default default default default default default).enters (by
  intro args v h
  unfold rRectH at h
  split at h
  · cases h; exact rRect_lc _ _ _ _ _ _ _
  · cases h)


def rcl (k a c t l b r : Int) : Bool := goodR k a c t l b r && (if k = 2 ∨ k = 4 then decide (spB k b r ≥ a) && decide (spA k t l < IntKind.i64.wrap (a + c)) else decide (lnT k a c (spB k b r) = 2))


set_option maxRecDepth 100000 in
theorem rClips_vc (k a c t l b r : Int) {R : AV → Prop} (h : (∀ (n1 n2 : Nat), n1 = n1 ∧ br (!rightF k a c) (R (AV.tup [AV.v (Value.bool false), AV.v (Value.int IntKind.i64 2)])) (n2 = n2 ∧ br (!okR t l b r) (R (AV.tup [AV.v (Value.bool false), AV.v (Value.int IntKind.i64 2)])) (n2 = n2 ∧ n2 = n2 ∧ n1 = n1 ∧ br (rowsF k) (n2 = n2 ∧ n2 = n2 ∧ n1 = n1 ∧ br (k == 2) (n1 = n1 ∧ br (decide (b ≥ a)) (n1 = n1 ∧ n1 = n1 ∧ R (AV.tup [AV.v (Value.bool (decide (t < IntKind.i64.wrap (a + c)))), AV.v (Value.int IntKind.i64 0)])) (R (AV.tup [AV.v (Value.bool false), AV.v (Value.int IntKind.i64 0)]))) (n1 = n1 ∧ br (k == 4) (n1 = n1 ∧ br (decide (b ≥ a)) (n1 = n1 ∧ n1 = n1 ∧ R (AV.tup [AV.v (Value.bool (decide (t < IntKind.i64.wrap (a + c)))), AV.v (Value.int IntKind.i64 0)])) (R (AV.tup [AV.v (Value.bool false), AV.v (Value.int IntKind.i64 0)]))) (n1 = n1 ∧ R (AV.tup [AV.v (Value.bool (lnT k a c b == 2)), AV.v (Value.int IntKind.i64 0)])))) (n1 = n1 ∧ br (k == 2) (n1 = n1 ∧ br (decide (r ≥ a)) (n1 = n1 ∧ n1 = n1 ∧ R (AV.tup [AV.v (Value.bool (decide (l < IntKind.i64.wrap (a + c)))), AV.v (Value.int IntKind.i64 0)])) (R (AV.tup [AV.v (Value.bool false), AV.v (Value.int IntKind.i64 0)]))) (n1 = n1 ∧ br (k == 4) (n1 = n1 ∧ br (decide (r ≥ a)) (n1 = n1 ∧ n1 = n1 ∧ R (AV.tup [AV.v (Value.bool (decide (l < IntKind.i64.wrap (a + c)))), AV.v (Value.int IntKind.i64 0)])) (R (AV.tup [AV.v (Value.bool false), AV.v (Value.int IntKind.i64 0)]))) (n1 = n1 ∧ R (AV.tup [AV.v (Value.bool (lnT k a c r == 2)), AV.v (Value.int IntKind.i64 0)])))))))) : LC Try.prog 22 [.agg [.v (.int .i64 k), .v (.int .i64 a), .v (.int .i64 c)], .agg [.v (.int .i64 t), .v (.int .i64 l), .v (.int .i64 b), .v (.int .i64 r)]] [] (fun z_ _ => R z_) :=
  lc_of_exec (tbl := tb12) tab_ok tb12_ok mixed noinv _ Try.func22 rfl Try.ntmps22 (by decide) (by kernel_rfl) (Nat.le_of_ble_eq_true rfl) (Eq.mpr (by kernel_rfl : exec tab tb12 noinv 0 (body Try.f22) (argsT [.agg [.v (.int .i64 k), .v (.int .i64 a), .v (.int .i64 c)], .agg [.v (.int .i64 t), .v (.int .i64 l), .v (.int .i64 b), .v (.int .i64 r)]] 0) [] (post Try.f22 tab (fun z_ _ => R z_)) = (∀ (n1 n2 : Nat), n1 = n1 ∧ br (!rightF k a c) (R (AV.tup [AV.v (Value.bool false), AV.v (Value.int IntKind.i64 2)])) (n2 = n2 ∧ br (!okR t l b r) (R (AV.tup [AV.v (Value.bool false), AV.v (Value.int IntKind.i64 2)])) (n2 = n2 ∧ n2 = n2 ∧ n1 = n1 ∧ br (rowsF k) (n2 = n2 ∧ n2 = n2 ∧ n1 = n1 ∧ br (k == 2) (n1 = n1 ∧ br (decide (b ≥ a)) (n1 = n1 ∧ n1 = n1 ∧ R (AV.tup [AV.v (Value.bool (decide (t < IntKind.i64.wrap (a + c)))), AV.v (Value.int IntKind.i64 0)])) (R (AV.tup [AV.v (Value.bool false), AV.v (Value.int IntKind.i64 0)]))) (n1 = n1 ∧ br (k == 4) (n1 = n1 ∧ br (decide (b ≥ a)) (n1 = n1 ∧ n1 = n1 ∧ R (AV.tup [AV.v (Value.bool (decide (t < IntKind.i64.wrap (a + c)))), AV.v (Value.int IntKind.i64 0)])) (R (AV.tup [AV.v (Value.bool false), AV.v (Value.int IntKind.i64 0)]))) (n1 = n1 ∧ R (AV.tup [AV.v (Value.bool (lnT k a c b == 2)), AV.v (Value.int IntKind.i64 0)])))) (n1 = n1 ∧ br (k == 2) (n1 = n1 ∧ br (decide (r ≥ a)) (n1 = n1 ∧ n1 = n1 ∧ R (AV.tup [AV.v (Value.bool (decide (l < IntKind.i64.wrap (a + c)))), AV.v (Value.int IntKind.i64 0)])) (R (AV.tup [AV.v (Value.bool false), AV.v (Value.int IntKind.i64 0)]))) (n1 = n1 ∧ br (k == 4) (n1 = n1 ∧ br (decide (r ≥ a)) (n1 = n1 ∧ n1 = n1 ∧ R (AV.tup [AV.v (Value.bool (decide (l < IntKind.i64.wrap (a + c)))), AV.v (Value.int IntKind.i64 0)])) (R (AV.tup [AV.v (Value.bool false), AV.v (Value.int IntKind.i64 0)]))) (n1 = n1 ∧ R (AV.tup [AV.v (Value.bool (lnT k a c r == 2)), AV.v (Value.int IntKind.i64 0)])))))))) h)

set_option maxRecDepth 100000 in
theorem rClips_lc (k a c t l b r : Int) : LC Try.prog 22 [.agg [.v (.int .i64 k), .v (.int .i64 a), .v (.int .i64 c)], .agg [.v (.int .i64 t), .v (.int .i64 l), .v (.int .i64 b), .v (.int .i64 r)]] [] (fun z_ _ => z_ = .tup [.v (.bool (rcl k a c t l b r)), .v (.int .i64 (ifB (goodR k a c t l b r) 0 2))]) :=
  rClips_vc k a c t l b r (by
    intros
    simp only [true_and, and_true, br_iff, AV.v.injEq, AV.tup.injEq, AV.agg.injEq, List.cons.injEq, Value.bool.injEq, Value.int.injEq, decide_eq_true_eq, decide_eq_false_iff_not, ifB, rcl, spA, spB, goodR]
    repeat' (first | (refine ⟨?_, ?_⟩) | intro _)
    all_goals (first | trivial | omega | (simp_all; done) | (simp_all; omega) | (rw [Bool.eq_iff_iff]; simp (config := {failIfUnchanged := false}) only [decide_eq_true_eq, Bool.false_eq_true, false_iff, iff_false, true_iff, iff_true, Bool.and_eq_true, Bool.or_eq_true]; omega) | (simp_all; rw [Bool.eq_iff_iff]; simp <;> omega)))

def rClipsH : List AV → Option AV
  | [.agg [.v (.int .i64 k), .v (.int .i64 a), .v (.int .i64 c)], .agg [.v (.int .i64 t), .v (.int .i64 l), .v (.int .i64 b), .v (.int .i64 r)]] => some (.tup [.v (.bool (rcl k a c t l b r)), .v (.int .i64 (ifB (goodR k a c t l b r) 0 2))])
  | _ => none

theorem rClips_ok : POk Try.prog 22 rClipsH := POk.of_lc (rClips_lc default default default default default default default).enters (by
  intro args v h
  unfold rClipsH at h
  split at h
  · cases h; exact rClips_lc _ _ _ _ _ _ _
  · cases h)


def tb13 : Tbl := (20, .pure rRectH) :: (22, .pure rClipsH) :: tb12

theorem tb13_ok : TblOk Try.prog tb13 := ⟨rRect_ok, rClips_ok, tb12_ok⟩


set_option maxRecDepth 100000 in
theorem lives_vc  {R : AV → Prop} (h : (∀ (n1 n2 : Nat), n1 = n1 ∧ n2 = n2 ∧ n1 = n1 ∧ ∀ (n3 : Nat), n3 = n3 ∧ n1 = n1 ∧ ∀ (n4 : Nat), n4 = n4 ∧ n2 = n2 ∧ ∀ (n5 : Nat), n5 = n5 ∧ n1 = n1 ∧ ∀ (n6 : Nat), n6 = n6 ∧ n2 = n2 ∧ ∀ (n7 : Nat), n7 = n7 ∧ n2 = n2 ∧ ∀ (n8 : Nat), n8 = n8 ∧ n1 = n1 ∧ ∀ (n9 : Nat), n9 = n9 ∧ n3 = n3 ∧ n4 = n4 ∧ n5 = n5 ∧ n6 = n6 ∧ n7 = n7 ∧ n9 = n9 ∧ n2 = n2 ∧ R (AV.v (Value.bool (ifB (rightF 1 3 2) 0 2 == 0))))) : LC Try.prog 16 [] [] (fun z_ _ => R z_) :=
  lc_of_exec (tbl := tb13) tab_ok tb13_ok mixed noinv _ Try.func16 rfl Try.ntmps16 (by decide) (by kernel_rfl) (Nat.le_of_ble_eq_true rfl) (Eq.mpr (by kernel_rfl : exec tab tb13 noinv 0 (body Try.f16) (argsT [] 0) [] (post Try.f16 tab (fun z_ _ => R z_)) = (∀ (n1 n2 : Nat), n1 = n1 ∧ n2 = n2 ∧ n1 = n1 ∧ ∀ (n3 : Nat), n3 = n3 ∧ n1 = n1 ∧ ∀ (n4 : Nat), n4 = n4 ∧ n2 = n2 ∧ ∀ (n5 : Nat), n5 = n5 ∧ n1 = n1 ∧ ∀ (n6 : Nat), n6 = n6 ∧ n2 = n2 ∧ ∀ (n7 : Nat), n7 = n7 ∧ n2 = n2 ∧ ∀ (n8 : Nat), n8 = n8 ∧ n1 = n1 ∧ ∀ (n9 : Nat), n9 = n9 ∧ n3 = n3 ∧ n4 = n4 ∧ n5 = n5 ∧ n6 = n6 ∧ n7 = n7 ∧ n9 = n9 ∧ n2 = n2 ∧ R (AV.v (Value.bool (ifB (rightF 1 3 2) 0 2 == 0))))) h)

set_option maxRecDepth 100000 in
theorem lives_lc  : LC Try.prog 16 [] [] (fun z_ _ => z_ = .v (.bool true)) :=
  lives_vc  (by
    intros
    simp only [true_and, and_true, br_iff, AV.v.injEq, AV.tup.injEq, AV.agg.injEq, List.cons.injEq, Value.bool.injEq, Value.int.injEq, decide_eq_true_eq, decide_eq_false_iff_not]
    repeat' (first | (refine ⟨?_, ?_⟩) | intro _)
    all_goals (first | trivial | omega | (simp_all; done) | (simp_all; omega) | (rw [Bool.eq_iff_iff]; simp (config := {failIfUnchanged := false}) only [decide_eq_true_eq, Bool.false_eq_true, false_iff, iff_false, true_iff, iff_true, Bool.and_eq_true, Bool.or_eq_true]; omega) | (simp_all; rw [Bool.eq_iff_iff]; simp <;> omega)))

def livesH : List AV → Option AV
  | [] => some (.v (.bool true))
  | _ => none

theorem lives_ok : POk Try.prog 16 livesH := POk.of_lc (lives_lc ).enters (by
  intro args v h
  unfold livesH at h
  split at h
  · cases h; exact lives_lc 
  · cases h)


def tb14 : Tbl := (16, .pure livesH) :: tb13

theorem tb14_ok : TblOk Try.prog tb14 := ⟨lives_ok, tb13_ok⟩
end Go.Proofs.Ytbdifnmadaggaaa

