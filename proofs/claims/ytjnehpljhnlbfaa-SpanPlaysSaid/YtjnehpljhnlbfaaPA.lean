import Derived.Test.YtjnehpljhnlbfaaA
namespace Go.Proofs.Ytjnehpljhnlbfaa
open Go Go.Eng
set_option linter.unusedVariables false
set_option linter.unusedSimpArgs false
def ifB (c : Bool) (a b : Int) : Int := if c then a else b
def okP (r q : Int) : Bool := decide (1 ≤ r ∧ r ≤ 1048576 ∧ 1 ≤ q ∧ q ≤ 16384)
set_option maxRecDepth 100000 in
theorem is_vc (r q : Int) {R : AV → Prop} (h : (∀ (n1 : Nat), n1 = n1 ∧ br (decide (r ≥ (1 : Int))) (n1 = n1 ∧ br (decide (r ≤ (1048576 : Int))) (n1 = n1 ∧ br (decide (q ≥ (1 : Int))) (n1 = n1 ∧ R (AV.v (Value.bool (decide (q ≤ (16384 : Int)))))) (R (AV.v (Value.bool false)))) (R (AV.v (Value.bool false)))) (R (AV.v (Value.bool false))))) : LC Try.prog 31 [.agg [.v (.int .i64 r), .v (.int .i64 q)]] [] (fun z_ _ => R z_) :=
  lc_of_exec (tbl := []) tab_ok trivial mixed noinv 2 _ Try.func31 rfl Try.ntmps31 (by decide) (by kernel_rfl) (Nat.le_of_ble_eq_true rfl) (@Eq.mpr (execN tab [] noinv 2 Try.f31.ntmps [] none 0 (body Try.f31) (argsT [.agg [.v (.int .i64 r), .v (.int .i64 q)]] 0) [] (post Try.f31 tab (retK (fun z_ _ => R z_)))) _ (by kernel_rfl) h)
set_option maxRecDepth 100000 in
theorem is_lc (r q : Int) : LC Try.prog 31 [.agg [.v (.int .i64 r), .v (.int .i64 q)]] [] (fun z_ _ => z_ = .v (.bool (okP r q))) :=
  is_vc r q (by
    intros
    simp only [true_and, and_true, br_iff, AV.v.injEq, AV.tup.injEq, AV.agg.injEq, List.cons.injEq, Value.bool.injEq, Value.int.injEq, decide_eq_true_eq, decide_eq_false_iff_not, okP]
    repeat' (first | (refine ⟨?_, ?_⟩) | intro _)
    all_goals (first | trivial | omega | (simp_all; done) | (simp_all; omega) | (rw [Bool.eq_iff_iff]; simp (config := {failIfUnchanged := false}) only [decide_eq_true_eq, Bool.false_eq_true, false_iff, iff_false, true_iff, iff_true, Bool.and_eq_true, Bool.or_eq_true]; omega) | (simp_all; rw [Bool.eq_iff_iff]; simp <;> omega)))
def isH : List AV → Option AV
  | [.agg [.v (.int .i64 r), .v (.int .i64 q)]] => some (.v (.bool (okP r q)))
  | _ => none
theorem is_ok : POk Try.prog 31 isH := POk.of_lc (enters_of (c := body Try.f31) Try.func31 rfl (by kernel_rfl)) (by
  intro args v h
  unfold isH at h
  split at h
  · cases h; exact is_lc _ _
  · cases h)
set_option maxRecDepth 100000 in
theorem rPlace_vc (r q : Int) {R : AV → Prop} (h : (∀ (n1 : Nat), n1 = n1 ∧ br (decide (r ≥ (1 : Int))) (n1 = n1 ∧ br (decide (r ≤ (1048576 : Int))) (n1 = n1 ∧ br (decide (q ≥ (1 : Int))) (n1 = n1 ∧ R (AV.v (Value.bool (decide (q ≤ (16384 : Int)))))) (R (AV.v (Value.bool false)))) (R (AV.v (Value.bool false)))) (R (AV.v (Value.bool false))))) : LC Try.prog 86 [.agg [.v (.int .i64 r), .v (.int .i64 q)]] [] (fun z_ _ => R z_) :=
  lc_of_exec (tbl := []) tab_ok trivial mixed noinv 2 _ Try.func86 rfl Try.ntmps86 (by decide) (by kernel_rfl) (Nat.le_of_ble_eq_true rfl) (@Eq.mpr (execN tab [] noinv 2 Try.f86.ntmps [] none 0 (body Try.f86) (argsT [.agg [.v (.int .i64 r), .v (.int .i64 q)]] 0) [] (post Try.f86 tab (retK (fun z_ _ => R z_)))) _ (by kernel_rfl) h)
set_option maxRecDepth 100000 in
theorem rPlace_lc (r q : Int) : LC Try.prog 86 [.agg [.v (.int .i64 r), .v (.int .i64 q)]] [] (fun z_ _ => z_ = .v (.bool (okP r q))) :=
  rPlace_vc r q (by
    intros
    simp only [true_and, and_true, br_iff, AV.v.injEq, AV.tup.injEq, AV.agg.injEq, List.cons.injEq, Value.bool.injEq, Value.int.injEq, decide_eq_true_eq, decide_eq_false_iff_not, okP]
    repeat' (first | (refine ⟨?_, ?_⟩) | intro _)
    all_goals (first | trivial | omega | (simp_all; done) | (simp_all; omega) | (rw [Bool.eq_iff_iff]; simp (config := {failIfUnchanged := false}) only [decide_eq_true_eq, Bool.false_eq_true, false_iff, iff_false, true_iff, iff_true, Bool.and_eq_true, Bool.or_eq_true]; omega) | (simp_all; rw [Bool.eq_iff_iff]; simp <;> omega)))
def rPlaceH : List AV → Option AV
  | [.agg [.v (.int .i64 r), .v (.int .i64 q)]] => some (.v (.bool (okP r q)))
  | _ => none
theorem rPlace_ok : POk Try.prog 86 rPlaceH := POk.of_lc (enters_of (c := body Try.f86) Try.func86 rfl (by kernel_rfl)) (by
  intro args v h
  unfold rPlaceH at h
  split at h
  · cases h; exact rPlace_lc _ _
  · cases h)
def pt1 : Tbl := (31, .pure isH) :: (86, .pure rPlaceH) :: []
theorem pt1_ok : TblOk Try.prog pt1 := ⟨is_ok, rPlace_ok, trivial⟩
def okR (t l b r : Int) : Bool := okP t l && okP b r && decide (t ≤ b) && decide (l ≤ r)
set_option maxRecDepth 100000 in
theorem of_vc (a b c d : Int) {R : AV → Prop} (h : (∀ (n1 n2 n3 : Nat), n1 = n1 ∧ br (!okP a b) (n3 = n3 ∧ n3 = n3 ∧ R (AV.tup [AV.agg [AV.v (Value.int IntKind.i64 (0 : Int)), AV.v (Value.int IntKind.i64 (0 : Int)), AV.v (Value.int IntKind.i64 (0 : Int)), AV.v (Value.int IntKind.i64 (0 : Int))], AV.v (Value.int IntKind.i64 (2 : Int))])) (n2 = n2 ∧ br (!okP c d) (n3 = n3 ∧ n3 = n3 ∧ R (AV.tup [AV.agg [AV.v (Value.int IntKind.i64 (0 : Int)), AV.v (Value.int IntKind.i64 (0 : Int)), AV.v (Value.int IntKind.i64 (0 : Int)), AV.v (Value.int IntKind.i64 (0 : Int))], AV.v (Value.int IntKind.i64 (2 : Int))])) (n1 = n1 ∧ n2 = n2 ∧ n1 = n1 ∧ n2 = n2 ∧ n1 = n1 ∧ n2 = n2 ∧ n1 = n1 ∧ n2 = n2 ∧ n3 = n3 ∧ n3 = n3 ∧ R (AV.tup [AV.agg [AV.v (Value.int IntKind.i64 (if c < a then c else a)), AV.v (Value.int IntKind.i64 (if d < b then d else b)), AV.v (Value.int IntKind.i64 (if c > a then c else a)), AV.v (Value.int IntKind.i64 (if d > b then d else b))], AV.v (Value.int IntKind.i64 (0 : Int))]))))) : LC Try.prog 13 [.agg [.v (.int .i64 a), .v (.int .i64 b)], .agg [.v (.int .i64 c), .v (.int .i64 d)]] [] (fun z_ _ => R z_) :=
  lc_of_exec (tbl := pt1) tab_ok pt1_ok mixed noinv 2 _ Try.func13 rfl Try.ntmps13 (by decide) (by kernel_rfl) (Nat.le_of_ble_eq_true rfl) (@Eq.mpr (execN tab pt1 noinv 2 Try.f13.ntmps [] none 0 (body Try.f13) (argsT [.agg [.v (.int .i64 a), .v (.int .i64 b)], .agg [.v (.int .i64 c), .v (.int .i64 d)]] 0) [] (post Try.f13 tab (retK (fun z_ _ => R z_)))) _ (by kernel_rfl) h)
set_option maxRecDepth 100000 in
theorem of_lc (a b c d : Int) : LC Try.prog 13 [.agg [.v (.int .i64 a), .v (.int .i64 b)], .agg [.v (.int .i64 c), .v (.int .i64 d)]] [] (fun z_ _ => z_ = .tup [.agg [.v (.int .i64 (ifB (okP a b && okP c d) (min a c) 0)), .v (.int .i64 (ifB (okP a b && okP c d) (min b d) 0)), .v (.int .i64 (ifB (okP a b && okP c d) (max a c) 0)), .v (.int .i64 (ifB (okP a b && okP c d) (max b d) 0))], .v (.int .i64 (ifB (okP a b && okP c d) 0 2))]) :=
  of_vc a b c d (by
    intros
    simp only [true_and, br_iff, AV.v.injEq, AV.tup.injEq, AV.agg.injEq, List.cons.injEq, Value.int.injEq, and_true]
    cases okP a b <;> cases okP c d <;> simp [ifB] <;> omega)
def ofH : List AV → Option AV
  | [.agg [.v (.int .i64 a), .v (.int .i64 b)], .agg [.v (.int .i64 c), .v (.int .i64 d)]] => some (.tup [.agg [.v (.int .i64 (ifB (okP a b && okP c d) (min a c) 0)), .v (.int .i64 (ifB (okP a b && okP c d) (min b d) 0)), .v (.int .i64 (ifB (okP a b && okP c d) (max a c) 0)), .v (.int .i64 (ifB (okP a b && okP c d) (max b d) 0))], .v (.int .i64 (ifB (okP a b && okP c d) 0 2))])
  | _ => none
theorem of_ok : POk Try.prog 13 ofH := POk.of_lc (enters_of (c := body Try.f13) Try.func13 rfl (by kernel_rfl)) (by
  intro args v h
  unfold ofH at h
  split at h
  · cases h; exact of_lc _ _ _ _
  · cases h)
set_option maxRecDepth 100000 in
theorem rRight_vc (t l b r : Int) {R : AV → Prop} (h : (∀ (n1 : Nat), n1 = n1 ∧ n1 = n1 ∧ br (okP t l) (n1 = n1 ∧ n1 = n1 ∧ br (okP b r) (n1 = n1 ∧ n1 = n1 ∧ br (decide (t ≤ b)) (n1 = n1 ∧ n1 = n1 ∧ R (AV.v (Value.bool (decide (l ≤ r))))) (R (AV.v (Value.bool false)))) (R (AV.v (Value.bool false)))) (R (AV.v (Value.bool false))))) : LC Try.prog 63 [.agg [.v (.int .i64 t), .v (.int .i64 l), .v (.int .i64 b), .v (.int .i64 r)]] [] (fun z_ _ => R z_) :=
  lc_of_exec (tbl := pt1) tab_ok pt1_ok mixed noinv 2 _ Try.func63 rfl Try.ntmps63 (by decide) (by kernel_rfl) (Nat.le_of_ble_eq_true rfl) (@Eq.mpr (execN tab pt1 noinv 2 Try.f63.ntmps [] none 0 (body Try.f63) (argsT [.agg [.v (.int .i64 t), .v (.int .i64 l), .v (.int .i64 b), .v (.int .i64 r)]] 0) [] (post Try.f63 tab (retK (fun z_ _ => R z_)))) _ (by kernel_rfl) h)
set_option maxRecDepth 100000 in
theorem rRight_lc (t l b r : Int) : LC Try.prog 63 [.agg [.v (.int .i64 t), .v (.int .i64 l), .v (.int .i64 b), .v (.int .i64 r)]] [] (fun z_ _ => z_ = .v (.bool (okR t l b r))) :=
  rRight_vc t l b r (by
    intros
    simp only [true_and, and_true, br_iff, AV.v.injEq, AV.tup.injEq, AV.agg.injEq, List.cons.injEq, Value.bool.injEq, Value.int.injEq, decide_eq_true_eq, decide_eq_false_iff_not, okR]
    repeat' (first | (refine ⟨?_, ?_⟩) | intro _)
    all_goals (first | trivial | omega | (simp_all; done) | (simp_all; omega) | (rw [Bool.eq_iff_iff]; simp (config := {failIfUnchanged := false}) only [decide_eq_true_eq, Bool.false_eq_true, false_iff, iff_false, true_iff, iff_true, Bool.and_eq_true, Bool.or_eq_true]; omega) | (simp_all; rw [Bool.eq_iff_iff]; simp <;> omega)))
def rRightH : List AV → Option AV
  | [.agg [.v (.int .i64 t), .v (.int .i64 l), .v (.int .i64 b), .v (.int .i64 r)]] => some (.v (.bool (okR t l b r)))
  | _ => none
theorem rRight_ok : POk Try.prog 63 rRightH := POk.of_lc (enters_of (c := body Try.f63) Try.func63 rfl (by kernel_rfl)) (by
  intro args v h
  unfold rRightH at h
  split at h
  · cases h; exact rRight_lc _ _ _ _
  · cases h)
def pt2 : Tbl := (13, .pure ofH) :: (63, .pure rRightH) :: pt1
theorem pt2_ok : TblOk Try.prog pt2 := ⟨of_ok, rRight_ok, pt1_ok⟩
set_option maxRecDepth 100000 in
theorem pcheck_vc (t l b r : Int) {R : AV → Prop} (h : (∀ (n1 : Nat), n1 = n1 ∧ n1 = n1 ∧ n1 = n1 ∧ n1 = n1 ∧ ∀ (n2 : Nat), n2 = n2 ∧ br (ifB (okP t l && okP b r) (0 : Int) (2 : Int) != (0 : Int)) (R (AV.v (Value.int IntKind.i64 (2 : Int)))) (n2 = n2 ∧ n1 = n1 ∧ br (!(ifB (okP t l && okP b r) (min t b) (0 : Int) == t && (ifB (okP t l && okP b r) (min l r) (0 : Int) == l && (ifB (okP t l && okP b r) (max t b) (0 : Int) == b && (ifB (okP t l && okP b r) (max l r) (0 : Int) == r && true))))) (R (AV.v (Value.int IntKind.i64 (2 : Int)))) (R (AV.v (Value.int IntKind.i64 (0 : Int))))))) : LC Try.prog 23 [.agg [.v (.int .i64 t), .v (.int .i64 l), .v (.int .i64 b), .v (.int .i64 r)]] [] (fun z_ _ => R z_) :=
  lc_of_exec (tbl := pt2) tab_ok pt2_ok mixed noinv 2 _ Try.func23 rfl Try.ntmps23 (by decide) (by kernel_rfl) (Nat.le_of_ble_eq_true rfl) (@Eq.mpr (execN tab pt2 noinv 2 Try.f23.ntmps [] none 0 (body Try.f23) (argsT [.agg [.v (.int .i64 t), .v (.int .i64 l), .v (.int .i64 b), .v (.int .i64 r)]] 0) [] (post Try.f23 tab (retK (fun z_ _ => R z_)))) _ (by kernel_rfl) h)
set_option maxRecDepth 100000 in
theorem pcheck_lc (t l b r : Int) : LC Try.prog 23 [.agg [.v (.int .i64 t), .v (.int .i64 l), .v (.int .i64 b), .v (.int .i64 r)]] [] (fun z_ _ => z_ = .v (.int .i64 (ifB (okR t l b r) 0 2))) :=
  pcheck_vc t l b r (by
    intros
    simp only [true_and, br_iff, AV.v.injEq, Value.int.injEq, okR]
    cases okP t l <;> cases okP b r <;> simp [ifB] <;> (repeat' (first | (refine ⟨?_, ?_⟩) | intro _)) <;> (first | omega | skip)
    all_goals simp_all
    all_goals omega)
def pcheckH : List AV → Option AV
  | [.agg [.v (.int .i64 t), .v (.int .i64 l), .v (.int .i64 b), .v (.int .i64 r)]] => some (.v (.int .i64 (ifB (okR t l b r) 0 2)))
  | _ => none
theorem pcheck_ok : POk Try.prog 23 pcheckH := POk.of_lc (enters_of (c := body Try.f23) Try.func23 rfl (by kernel_rfl)) (by
  intro args v h
  unfold pcheckH at h
  split at h
  · cases h; exact pcheck_lc _ _ _ _
  · cases h)
def pt3 : Tbl := (23, .pure pcheckH) :: pt2
theorem pt3_ok : TblOk Try.prog pt3 := ⟨pcheck_ok, pt2_ok⟩
def inF (t l b r y x : Int) : Bool := okR t l b r && decide (t ≤ y ∧ y ≤ b ∧ l ≤ x ∧ x ≤ r)
set_option maxRecDepth 100000 in
theorem pin_vc (t l b r y x : Int) {R : AV → Prop} (h : (∀ (n1 n2 : Nat), n1 = n1 ∧ br (ifB (okR t l b r) (0 : Int) (2 : Int) == (0 : Int)) (n2 = n2 ∧ n1 = n1 ∧ br (decide (y ≥ t)) (n2 = n2 ∧ n1 = n1 ∧ br (decide (y ≤ b)) (n2 = n2 ∧ n1 = n1 ∧ br (decide (x ≥ l)) (n2 = n2 ∧ n1 = n1 ∧ R (AV.v (Value.bool (decide (x ≤ r))))) (R (AV.v (Value.bool false)))) (R (AV.v (Value.bool false)))) (R (AV.v (Value.bool false)))) (R (AV.v (Value.bool false))))) : LC Try.prog 12 [.agg [.v (.int .i64 t), .v (.int .i64 l), .v (.int .i64 b), .v (.int .i64 r)], .agg [.v (.int .i64 y), .v (.int .i64 x)]] [] (fun z_ _ => R z_) :=
  lc_of_exec (tbl := pt3) tab_ok pt3_ok mixed noinv 2 _ Try.func12 rfl Try.ntmps12 (by decide) (by kernel_rfl) (Nat.le_of_ble_eq_true rfl) (@Eq.mpr (execN tab pt3 noinv 2 Try.f12.ntmps [] none 0 (body Try.f12) (argsT [.agg [.v (.int .i64 t), .v (.int .i64 l), .v (.int .i64 b), .v (.int .i64 r)], .agg [.v (.int .i64 y), .v (.int .i64 x)]] 0) [] (post Try.f12 tab (retK (fun z_ _ => R z_)))) _ (by kernel_rfl) h)
set_option maxRecDepth 100000 in
theorem pin_lc (t l b r y x : Int) : LC Try.prog 12 [.agg [.v (.int .i64 t), .v (.int .i64 l), .v (.int .i64 b), .v (.int .i64 r)], .agg [.v (.int .i64 y), .v (.int .i64 x)]] [] (fun z_ _ => z_ = .v (.bool (inF t l b r y x))) :=
  pin_vc t l b r y x (by
    intros
    simp only [true_and, and_true, br_iff, AV.v.injEq, AV.tup.injEq, AV.agg.injEq, List.cons.injEq, Value.bool.injEq, Value.int.injEq, decide_eq_true_eq, decide_eq_false_iff_not, ifB, inF]
    repeat' (first | (refine ⟨?_, ?_⟩) | intro _)
    all_goals (first | trivial | omega | (simp_all; done) | (simp_all; omega) | (rw [Bool.eq_iff_iff]; simp (config := {failIfUnchanged := false}) only [decide_eq_true_eq, Bool.false_eq_true, false_iff, iff_false, true_iff, iff_true, Bool.and_eq_true, Bool.or_eq_true]; omega) | (simp_all; rw [Bool.eq_iff_iff]; simp <;> omega)))
def pinH : List AV → Option AV
  | [.agg [.v (.int .i64 t), .v (.int .i64 l), .v (.int .i64 b), .v (.int .i64 r)], .agg [.v (.int .i64 y), .v (.int .i64 x)]] => some (.v (.bool (inF t l b r y x)))
  | _ => none
theorem pin_ok : POk Try.prog 12 pinH := POk.of_lc (enters_of (c := body Try.f12) Try.func12 rfl (by kernel_rfl)) (by
  intro args v h
  unfold pinH at h
  split at h
  · cases h; exact pin_lc _ _ _ _ _ _
  · cases h)
def areaF (t l b r : Int) : Int := ifB (okR t l b r) ((b - t + 1) * (r - l + 1)) 0
theorem okR_b {t l b r : Int} (h : okR t l b r = true) : 1 ≤ t ∧ t ≤ b ∧ b ≤ 1048576 ∧ 1 ≤ l ∧ l ≤ r ∧ r ≤ 16384 := by
  simp only [okR, okP, Bool.and_eq_true, decide_eq_true_eq] at h; omega
theorem okR_iff {t l b r : Int} : okR t l b r = true ↔ 1 ≤ t ∧ t ≤ b ∧ b ≤ 1048576 ∧ 1 ≤ l ∧ l ≤ r ∧ r ≤ 16384 := by
  simp only [okR, okP, Bool.and_eq_true, decide_eq_true_eq]; omega
theorem area_w {t l b r : Int} (h : okR t l b r = true) : IntKind.i64.wrap (IntKind.i64.wrap (IntKind.i64.wrap (b - t) + 1) * IntKind.i64.wrap (IntKind.i64.wrap (r - l) + 1)) = (b - t + 1) * (r - l + 1) := by
  have := okR_b h
  rw [w64 (x := b - t) (by omega), w64 (x := r - l) (by omega), w64 (x := b - t + 1) (by omega), w64 (x := r - l + 1) (by omega)]
  have h1 : 0 ≤ (b - t + 1) * (r - l + 1) := Int.mul_nonneg (by omega) (by omega)
  have h2 : (b - t + 1) * (r - l + 1) ≤ 1048576 * 16384 := Int.mul_le_mul (by omega) (by omega) (by omega) (by omega)
  exact w64 (by omega)
def pt4 : Tbl := (12, .pure pinH) :: pt3
theorem pt4_ok : TblOk Try.prog pt4 := ⟨pin_ok, pt3_ok⟩
end Go.Proofs.Ytjnehpljhnlbfaa
