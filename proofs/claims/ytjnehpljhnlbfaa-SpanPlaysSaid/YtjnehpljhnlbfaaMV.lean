import Derived.Test.YtjnehpljhnlbfaaPA
namespace Go.Proofs.Ytjnehpljhnlbfaa
open Go Go.Eng
set_option linter.unusedVariables false
set_option linter.unusedSimpArgs false
def rowsF (k : Int) : Bool := decide (k = 1 ∨ k = 2)
set_option maxRecDepth 100000 in
theorem rows_vc (k a c : Int) {R : AV → Prop} (h : (∀ (n1 : Nat), n1 = n1 ∧ br (k == (1 : Int)) (R (AV.v (Value.bool true))) (n1 = n1 ∧ R (AV.v (Value.bool (k == (2 : Int))))))) : LC Try.prog 36 [.agg [.v (.int .i64 k), .v (.int .i64 a), .v (.int .i64 c)]] [] (fun z_ _ => R z_) :=
  lc_of_exec (tbl := []) tab_ok trivial mixed noinv 2 _ Try.func36 rfl Try.ntmps36 (by decide) (by kernel_rfl) (Nat.le_of_ble_eq_true rfl) (@Eq.mpr (execN tab [] noinv 2 Try.f36.ntmps [] none 0 (body Try.f36) (argsT [.agg [.v (.int .i64 k), .v (.int .i64 a), .v (.int .i64 c)]] 0) [] (post Try.f36 tab (retK (fun z_ _ => R z_)))) _ (by kernel_rfl) h)
set_option maxRecDepth 100000 in
theorem rows_lc (k a c : Int) : LC Try.prog 36 [.agg [.v (.int .i64 k), .v (.int .i64 a), .v (.int .i64 c)]] [] (fun z_ _ => z_ = .v (.bool (rowsF k))) :=
  rows_vc k a c (by
    intros
    simp only [true_and, br_iff, AV.v.injEq, Value.bool.injEq, rowsF]
    by_cases h1 : k = 1 <;> by_cases h2 : k = 2 <;> simp_all)
def rowsH : List AV → Option AV
  | [.agg [.v (.int .i64 k), .v (.int .i64 a), .v (.int .i64 c)]] => some (.v (.bool (rowsF k)))
  | _ => none
theorem rows_ok : POk Try.prog 36 rowsH := POk.of_lc (enters_of (c := body Try.f36) Try.func36 rfl (by kernel_rfl)) (by
  intro args v h
  unfold rowsH at h
  split at h
  · cases h; exact rows_lc _ _ _
  · cases h)
def mt1 : Tbl := (36, .pure rowsH) :: pt4
theorem mt1_ok : TblOk Try.prog mt1 := ⟨rows_ok, pt4_ok⟩
def insF (k : Int) : Bool := decide (k = 1 ∨ k = 3)
set_option maxRecDepth 100000 in
theorem inserts_vc (k a c : Int) {R : AV → Prop} (h : (∀ (n1 : Nat), n1 = n1 ∧ br (k == (1 : Int)) (R (AV.v (Value.bool true))) (n1 = n1 ∧ R (AV.v (Value.bool (k == (3 : Int))))))) : LC Try.prog 37 [.agg [.v (.int .i64 k), .v (.int .i64 a), .v (.int .i64 c)]] [] (fun z_ _ => R z_) :=
  lc_of_exec (tbl := []) tab_ok trivial mixed noinv 2 _ Try.func37 rfl Try.ntmps37 (by decide) (by kernel_rfl) (Nat.le_of_ble_eq_true rfl) (@Eq.mpr (execN tab [] noinv 2 Try.f37.ntmps [] none 0 (body Try.f37) (argsT [.agg [.v (.int .i64 k), .v (.int .i64 a), .v (.int .i64 c)]] 0) [] (post Try.f37 tab (retK (fun z_ _ => R z_)))) _ (by kernel_rfl) h)
set_option maxRecDepth 100000 in
theorem inserts_lc (k a c : Int) : LC Try.prog 37 [.agg [.v (.int .i64 k), .v (.int .i64 a), .v (.int .i64 c)]] [] (fun z_ _ => z_ = .v (.bool (insF k))) :=
  inserts_vc k a c (by
    intros
    simp only [true_and, br_iff, AV.v.injEq, Value.bool.injEq, insF]
    by_cases h1 : k = 1 <;> by_cases h2 : k = 3 <;> simp_all)
def insertsH : List AV → Option AV
  | [.agg [.v (.int .i64 k), .v (.int .i64 a), .v (.int .i64 c)]] => some (.v (.bool (insF k)))
  | _ => none
theorem inserts_ok : POk Try.prog 37 insertsH := POk.of_lc (enters_of (c := body Try.f37) Try.func37 rfl (by kernel_rfl)) (by
  intro args v h
  unfold insertsH at h
  split at h
  · cases h; exact inserts_lc _ _ _
  · cases h)
def mt2 : Tbl := (37, .pure insertsH) :: mt1
theorem mt2_ok : TblOk Try.prog mt2 := ⟨inserts_ok, mt1_ok⟩
def mostF (k : Int) : Int := if rowsF k then 1048576 else 16384
set_option maxRecDepth 100000 in
theorem most_vc (k a c : Int) {R : AV → Prop} (h : (∀ (n1 : Nat), n1 = n1 ∧ br (rowsF k) (R (AV.v (Value.int IntKind.i64 (1048576 : Int)))) (R (AV.v (Value.int IntKind.i64 (16384 : Int)))))) : LC Try.prog 35 [.agg [.v (.int .i64 k), .v (.int .i64 a), .v (.int .i64 c)]] [] (fun z_ _ => R z_) :=
  lc_of_exec (tbl := mt2) tab_ok mt2_ok mixed noinv 2 _ Try.func35 rfl Try.ntmps35 (by decide) (by kernel_rfl) (Nat.le_of_ble_eq_true rfl) (@Eq.mpr (execN tab mt2 noinv 2 Try.f35.ntmps [] none 0 (body Try.f35) (argsT [.agg [.v (.int .i64 k), .v (.int .i64 a), .v (.int .i64 c)]] 0) [] (post Try.f35 tab (retK (fun z_ _ => R z_)))) _ (by kernel_rfl) h)
set_option maxRecDepth 100000 in
theorem most_lc (k a c : Int) : LC Try.prog 35 [.agg [.v (.int .i64 k), .v (.int .i64 a), .v (.int .i64 c)]] [] (fun z_ _ => z_ = .v (.int .i64 (mostF k))) :=
  most_vc k a c (by
    intros
    simp only [true_and, br_iff, AV.v.injEq, Value.int.injEq, mostF]
    cases rowsF k <;> simp)
def mostH : List AV → Option AV
  | [.agg [.v (.int .i64 k), .v (.int .i64 a), .v (.int .i64 c)]] => some (.v (.int .i64 (mostF k)))
  | _ => none
theorem most_ok : POk Try.prog 35 mostH := POk.of_lc (enters_of (c := body Try.f35) Try.func35 rfl (by kernel_rfl)) (by
  intro args v h
  unfold mostH at h
  split at h
  · cases h; exact most_lc _ _ _
  · cases h)
def mt3 : Tbl := (35, .pure mostH) :: mt2
theorem mt3_ok : TblOk Try.prog mt3 := ⟨most_ok, mt2_ok⟩
def rightF (k a n : Int) : Bool := decide (1 ≤ k ∧ k ≤ 4 ∧ 1 ≤ a ∧ a ≤ mostF k ∧ 1 ≤ n ∧ n ≤ IntKind.i64.wrap (IntKind.i64.wrap (mostF k - a) + 1))
set_option maxRecDepth 100000 in
theorem check_vc (k a c : Int) {R : AV → Prop} (h : (∀ (n1 : Nat), n1 = n1 ∧ br (decide (k < (1 : Int))) (R (AV.v (Value.int IntKind.i64 (2 : Int)))) (n1 = n1 ∧ br (decide (k > (4 : Int))) (R (AV.v (Value.int IntKind.i64 (2 : Int)))) (n1 = n1 ∧ br (decide (a < (1 : Int))) (R (AV.v (Value.int IntKind.i64 (2 : Int)))) (n1 = n1 ∧ n1 = n1 ∧ br (decide (a > mostF k)) (R (AV.v (Value.int IntKind.i64 (2 : Int)))) (n1 = n1 ∧ br (decide (c < (1 : Int))) (R (AV.v (Value.int IntKind.i64 (2 : Int)))) (n1 = n1 ∧ n1 = n1 ∧ n1 = n1 ∧ br (decide (c > IntKind.i64.wrap (IntKind.i64.wrap (mostF k - a) + (1 : Int)))) (R (AV.v (Value.int IntKind.i64 (2 : Int)))) (R (AV.v (Value.int IntKind.i64 (0 : Int))))))))))) : LC Try.prog 18 [.agg [.v (.int .i64 k), .v (.int .i64 a), .v (.int .i64 c)]] [] (fun z_ _ => R z_) :=
  lc_of_exec (tbl := mt3) tab_ok mt3_ok mixed noinv 2 _ Try.func18 rfl Try.ntmps18 (by decide) (by kernel_rfl) (Nat.le_of_ble_eq_true rfl) (@Eq.mpr (execN tab mt3 noinv 2 Try.f18.ntmps [] none 0 (body Try.f18) (argsT [.agg [.v (.int .i64 k), .v (.int .i64 a), .v (.int .i64 c)]] 0) [] (post Try.f18 tab (retK (fun z_ _ => R z_)))) _ (by kernel_rfl) h)
set_option maxRecDepth 100000 in
theorem check_lc (k a c : Int) : LC Try.prog 18 [.agg [.v (.int .i64 k), .v (.int .i64 a), .v (.int .i64 c)]] [] (fun z_ _ => z_ = .v (.int .i64 (ifB (rightF k a c) 0 2))) :=
  check_vc k a c (by
    intros
    simp only [true_and, br_iff, AV.v.injEq, Value.int.injEq, ifB, rightF, decide_eq_true_eq, decide_eq_false_iff_not]
    repeat' (first | (refine ⟨?_, ?_⟩) | intro _)
    all_goals (first | rw [if_pos (by omega)] | rw [if_neg (by omega)]))
def checkH : List AV → Option AV
  | [.agg [.v (.int .i64 k), .v (.int .i64 a), .v (.int .i64 c)]] => some (.v (.int .i64 (ifB (rightF k a c) 0 2)))
  | _ => none
theorem check_ok : POk Try.prog 18 checkH := POk.of_lc (enters_of (c := body Try.f18) Try.func18 rfl (by kernel_rfl)) (by
  intro args v h
  unfold checkH at h
  split at h
  · cases h; exact check_lc _ _ _
  · cases h)
def mt4 : Tbl := (18, .pure checkH) :: mt3
theorem mt4_ok : TblOk Try.prog mt4 := ⟨check_ok, mt3_ok⟩
set_option maxRecDepth 100000 in
theorem rRows_vc (k a c : Int) {R : AV → Prop} (h : (∀ (n1 : Nat), n1 = n1 ∧ br (k == (1 : Int)) (R (AV.v (Value.bool true))) (n1 = n1 ∧ R (AV.v (Value.bool (k == (2 : Int))))))) : LC Try.prog 88 [.agg [.v (.int .i64 k), .v (.int .i64 a), .v (.int .i64 c)]] [] (fun z_ _ => R z_) :=
  lc_of_exec (tbl := []) tab_ok trivial mixed noinv 2 _ Try.func88 rfl Try.ntmps88 (by decide) (by kernel_rfl) (Nat.le_of_ble_eq_true rfl) (@Eq.mpr (execN tab [] noinv 2 Try.f88.ntmps [] none 0 (body Try.f88) (argsT [.agg [.v (.int .i64 k), .v (.int .i64 a), .v (.int .i64 c)]] 0) [] (post Try.f88 tab (retK (fun z_ _ => R z_)))) _ (by kernel_rfl) h)
set_option maxRecDepth 100000 in
theorem rRows_lc (k a c : Int) : LC Try.prog 88 [.agg [.v (.int .i64 k), .v (.int .i64 a), .v (.int .i64 c)]] [] (fun z_ _ => z_ = .v (.bool (rowsF k))) :=
  rRows_vc k a c (by
    intros
    simp only [true_and, br_iff, AV.v.injEq, Value.bool.injEq, rowsF]
    by_cases h1 : k = 1 <;> by_cases h2 : k = 2 <;> simp_all)
def rRowsH : List AV → Option AV
  | [.agg [.v (.int .i64 k), .v (.int .i64 a), .v (.int .i64 c)]] => some (.v (.bool (rowsF k)))
  | _ => none
theorem rRows_ok : POk Try.prog 88 rRowsH := POk.of_lc (enters_of (c := body Try.f88) Try.func88 rfl (by kernel_rfl)) (by
  intro args v h
  unfold rRowsH at h
  split at h
  · cases h; exact rRows_lc _ _ _
  · cases h)
def mt5 : Tbl := (88, .pure rRowsH) :: mt4
theorem mt5_ok : TblOk Try.prog mt5 := ⟨rRows_ok, mt4_ok⟩
set_option maxRecDepth 100000 in
theorem rmost_vc (k a c : Int) {R : AV → Prop} (h : (∀ (n1 : Nat), n1 = n1 ∧ br (rowsF k) (R (AV.v (Value.int IntKind.i64 (1048576 : Int)))) (R (AV.v (Value.int IntKind.i64 (16384 : Int)))))) : LC Try.prog 87 [.agg [.v (.int .i64 k), .v (.int .i64 a), .v (.int .i64 c)]] [] (fun z_ _ => R z_) :=
  lc_of_exec (tbl := mt5) tab_ok mt5_ok mixed noinv 2 _ Try.func87 rfl Try.ntmps87 (by decide) (by kernel_rfl) (Nat.le_of_ble_eq_true rfl) (@Eq.mpr (execN tab mt5 noinv 2 Try.f87.ntmps [] none 0 (body Try.f87) (argsT [.agg [.v (.int .i64 k), .v (.int .i64 a), .v (.int .i64 c)]] 0) [] (post Try.f87 tab (retK (fun z_ _ => R z_)))) _ (by kernel_rfl) h)
set_option maxRecDepth 100000 in
theorem rmost_lc (k a c : Int) : LC Try.prog 87 [.agg [.v (.int .i64 k), .v (.int .i64 a), .v (.int .i64 c)]] [] (fun z_ _ => z_ = .v (.int .i64 (mostF k))) :=
  rmost_vc k a c (by
    intros
    simp only [true_and, br_iff, AV.v.injEq, Value.int.injEq, mostF]
    cases rowsF k <;> simp)
def rmostH : List AV → Option AV
  | [.agg [.v (.int .i64 k), .v (.int .i64 a), .v (.int .i64 c)]] => some (.v (.int .i64 (mostF k)))
  | _ => none
theorem rmost_ok : POk Try.prog 87 rmostH := POk.of_lc (enters_of (c := body Try.f87) Try.func87 rfl (by kernel_rfl)) (by
  intro args v h
  unfold rmostH at h
  split at h
  · cases h; exact rmost_lc _ _ _
  · cases h)
def mt6 : Tbl := (87, .pure rmostH) :: mt5
theorem mt6_ok : TblOk Try.prog mt6 := ⟨rmost_ok, mt5_ok⟩
set_option maxRecDepth 100000 in
theorem eRight_vc (k a c : Int) {R : AV → Prop} (h : (∀ (n1 : Nat), n1 = n1 ∧ br (decide (k ≥ (1 : Int))) (n1 = n1 ∧ br (decide (k ≤ (4 : Int))) (n1 = n1 ∧ br (decide (a ≥ (1 : Int))) (n1 = n1 ∧ n1 = n1 ∧ br (decide (a ≤ mostF k)) (n1 = n1 ∧ br (decide (c ≥ (1 : Int))) (n1 = n1 ∧ n1 = n1 ∧ n1 = n1 ∧ R (AV.v (Value.bool (decide (c ≤ IntKind.i64.wrap (IntKind.i64.wrap (mostF k - a) + (1 : Int))))))) (R (AV.v (Value.bool false)))) (R (AV.v (Value.bool false)))) (R (AV.v (Value.bool false)))) (R (AV.v (Value.bool false)))) (R (AV.v (Value.bool false))))) : LC Try.prog 64 [.agg [.v (.int .i64 k), .v (.int .i64 a), .v (.int .i64 c)]] [] (fun z_ _ => R z_) :=
  lc_of_exec (tbl := mt6) tab_ok mt6_ok mixed noinv 2 _ Try.func64 rfl Try.ntmps64 (by decide) (by kernel_rfl) (Nat.le_of_ble_eq_true rfl) (@Eq.mpr (execN tab mt6 noinv 2 Try.f64.ntmps [] none 0 (body Try.f64) (argsT [.agg [.v (.int .i64 k), .v (.int .i64 a), .v (.int .i64 c)]] 0) [] (post Try.f64 tab (retK (fun z_ _ => R z_)))) _ (by kernel_rfl) h)
set_option maxRecDepth 100000 in
theorem eRight_lc (k a c : Int) : LC Try.prog 64 [.agg [.v (.int .i64 k), .v (.int .i64 a), .v (.int .i64 c)]] [] (fun z_ _ => z_ = .v (.bool (rightF k a c))) :=
  eRight_vc k a c (by
    intros
    simp only [true_and, and_true, br_iff, AV.v.injEq, AV.tup.injEq, AV.agg.injEq, List.cons.injEq, Value.bool.injEq, Value.int.injEq, decide_eq_true_eq, decide_eq_false_iff_not, rightF]
    repeat' (first | (refine ⟨?_, ?_⟩) | intro _)
    all_goals (first | trivial | omega | (simp_all; done) | (simp_all; omega) | (rw [Bool.eq_iff_iff]; simp (config := {failIfUnchanged := false}) only [decide_eq_true_eq, Bool.false_eq_true, false_iff, iff_false, true_iff, iff_true, Bool.and_eq_true, Bool.or_eq_true]; omega) | (simp_all; rw [Bool.eq_iff_iff]; simp <;> omega)))
def eRightH : List AV → Option AV
  | [.agg [.v (.int .i64 k), .v (.int .i64 a), .v (.int .i64 c)]] => some (.v (.bool (rightF k a c)))
  | _ => none
theorem eRight_ok : POk Try.prog 64 eRightH := POk.of_lc (enters_of (c := body Try.f64) Try.func64 rfl (by kernel_rfl)) (by
  intro args v h
  unfold eRightH at h
  split at h
  · cases h; exact eRight_lc _ _ _
  · cases h)
def mt7 : Tbl := (64, .pure eRightH) :: mt6
theorem mt7_ok : TblOk Try.prog mt7 := ⟨eRight_ok, mt6_ok⟩
def backK (k : Int) : Int := if k = 1 then 2 else if k = 2 then 1 else if k = 3 then 4 else 3
theorem rightF_b {k a c : Int} (h : rightF k a c = true) : 1 ≤ k ∧ k ≤ 4 ∧ 1 ≤ a ∧ a ≤ mostF k ∧ 1 ≤ c ∧ c ≤ mostF k - a + 1 ∧ 16384 ≤ mostF k ∧ mostF k ≤ 1048576 := by
  simp only [rightF, decide_eq_true_eq] at h
  have hm : 16384 ≤ mostF k ∧ mostF k ≤ 1048576 := by unfold mostF; split <;> omega
  have hw : IntKind.i64.wrap (IntKind.i64.wrap (mostF k - a) + 1) = mostF k - a + 1 := by
    rw [w64 (x := mostF k - a) (by omega), w64 (by omega)]
  rw [hw] at h
  omega
set_option maxRecDepth 100000 in
theorem mback_vc (k a c : Int) {R : AV → Prop} (h : (∀ (n1 n2 : Nat), n1 = n1 ∧ br (ifB (rightF k a c) (0 : Int) (2 : Int) != (0 : Int)) (n2 = n2 ∧ n2 = n2 ∧ R (AV.tup [AV.agg [AV.v (Value.int IntKind.i64 (0 : Int)), AV.v (Value.int IntKind.i64 (0 : Int)), AV.v (Value.int IntKind.i64 (0 : Int))], AV.v (Value.int IntKind.i64 (ifB (rightF k a c) (0 : Int) (2 : Int)))])) (n1 = n1 ∧ n1 = n1 ∧ n1 = n1 ∧ n2 = n2 ∧ n2 = n2 ∧ R (AV.tup [AV.agg [AV.v (Value.int IntKind.i64 (IntKind.i64.wrap (ibits BinOp.xor IntKind.i64 (IntKind.i64.wrap (k - (1 : Int))) (1 : Int) + (1 : Int)))), AV.v (Value.int IntKind.i64 a), AV.v (Value.int IntKind.i64 c)], AV.v (Value.int IntKind.i64 (0 : Int))])))) : LC Try.prog 20 [.agg [.v (.int .i64 k), .v (.int .i64 a), .v (.int .i64 c)]] [] (fun z_ _ => R z_) :=
  lc_of_exec (tbl := mt7) tab_ok mt7_ok mixed noinv 2 _ Try.func20 rfl Try.ntmps20 (by decide) (by kernel_rfl) (Nat.le_of_ble_eq_true rfl) (@Eq.mpr (execN tab mt7 noinv 2 Try.f20.ntmps [] none 0 (body Try.f20) (argsT [.agg [.v (.int .i64 k), .v (.int .i64 a), .v (.int .i64 c)]] 0) [] (post Try.f20 tab (retK (fun z_ _ => R z_)))) _ (by kernel_rfl) h)
set_option maxRecDepth 100000 in
theorem mback_lc (k a c : Int) : LC Try.prog 20 [.agg [.v (.int .i64 k), .v (.int .i64 a), .v (.int .i64 c)]] [] (fun z_ _ => z_ = .tup [.agg [.v (.int .i64 (ifB (rightF k a c) (backK k) 0)), .v (.int .i64 (ifB (rightF k a c) a 0)), .v (.int .i64 (ifB (rightF k a c) c 0))], .v (.int .i64 (ifB (rightF k a c) 0 2))]) :=
  mback_vc k a c (by
    intros
    simp only [true_and, br_iff, AV.v.injEq, AV.tup.injEq, AV.agg.injEq, List.cons.injEq, Value.int.injEq, and_true]
    cases h : rightF k a c <;> simp [ifB]
    have hb := rightF_b h
    have hk : k = 1 ∨ k = 2 ∨ k = 3 ∨ k = 4 := by omega
    rcases hk with rfl | rfl | rfl | rfl <;> rfl)
def mbackH : List AV → Option AV
  | [.agg [.v (.int .i64 k), .v (.int .i64 a), .v (.int .i64 c)]] => some (.tup [.agg [.v (.int .i64 (ifB (rightF k a c) (backK k) 0)), .v (.int .i64 (ifB (rightF k a c) a 0)), .v (.int .i64 (ifB (rightF k a c) c 0))], .v (.int .i64 (ifB (rightF k a c) 0 2))])
  | _ => none
theorem mback_ok : POk Try.prog 20 mbackH := POk.of_lc (enters_of (c := body Try.f20) Try.func20 rfl (by kernel_rfl)) (by
  intro args v h
  unfold mbackH at h
  split at h
  · cases h; exact mback_lc _ _ _
  · cases h)
def mt8 : Tbl := (20, .pure mbackH) :: mt7
theorem mt8_ok : TblOk Try.prog mt8 := ⟨mback_ok, mt7_ok⟩
abbrev wr (x : Int) : Int := IntKind.i64.wrap x
def stepN (k a c n : Int) : Int := if n < a then n else if insF k then IntKind.i64.wrap (n + c) else IntKind.i64.wrap (n - c)
def stepT (k a c n : Int) : Int := if n < a then 0 else if insF k then (if IntKind.i64.wrap (n + c) > mostF k then 2 else 0) else if IntKind.i64.wrap (n - c) < a then 1 else 0
def stepI : Handler := inlH tab mt8 noinv 2 Try.f38 2
set_option maxRecDepth 100000 in
theorem step_ok : HOk Try.prog 38 stepI :=
  inl_ok (tbl := mt8) tab_ok mt8_ok mixed noinv 2 _ 2 Try.func38 rfl Try.ntmps38 (by decide) (by kernel_rfl) (Nat.le_of_ble_eq_true rfl)
def mt9 : Tbl := (38, .gen stepI) :: mt8
theorem mt9_ok : TblOk Try.prog mt9 := ⟨step_ok, mt8_ok⟩
def downI : Handler := inlH tab mt9 noinv 2 Try.f81 4
set_option maxRecDepth 100000 in
theorem down_ok : HOk Try.prog 81 downI :=
  inl_ok (tbl := mt9) tab_ok mt9_ok mixed noinv 2 _ 4 Try.func81 rfl Try.ntmps81 (by decide) (by kernel_rfl) (Nat.le_of_ble_eq_true rfl)
def mt10 : Tbl := (81, .gen downI) :: mt9
theorem mt10_ok : TblOk Try.prog mt10 := ⟨down_ok, mt9_ok⟩
def good (k a c r q : Int) : Bool := okP r q && rightF k a c
def spL (k r q : Int) : Int := if rowsF k then r else q
def spStay (k a c r q : Int) : Bool := good k a c r q && decide (stepT k a c (spL k r q) = 0)
def spR (k a c r q : Int) : Int := ifB (spStay k a c r q) (if rowsF k then stepN k a c r else r) 0
def spC (k a c r q : Int) : Int := ifB (spStay k a c r q) (if rowsF k then q else stepN k a c q) 0
def spF (k a c r q : Int) : Int := ifB (good k a c r q) (stepT k a c (spL k r q)) 0
def dn (a c n i : Int) : Int := if n < a then n else if n < IntKind.i64.wrap (a + c) then i else IntKind.i64.wrap (n - c)
def lfNone (k a c f l : Int) : Bool := if insF k then decide (stepT k a c f = 2) else decide (f ≥ a) && decide (l < IntKind.i64.wrap (a + c))
def lfA (k a c f l : Int) : Int := if lfNone k a c f l then 0 else if insF k then stepN k a c f else dn a c f a
def lfB (k a c f l : Int) : Int := if lfNone k a c f l then 0 else if insF k then (if stepT k a c l = 2 then (if IntKind.i64.wrap (a + c) > mostF k then IntKind.i64.wrap (a - 1) else mostF k) else stepN k a c l) else dn a c l (IntKind.i64.wrap (a - 1))
noncomputable abbrev left_k1 (f : Int) (l : Int) (n_0 : Nat) : Blk := Blk.mk n_0 (Cont.cells [i6 f, i6 l] 85) true
noncomputable abbrev left_k2 (k : Int) (a : Int) (c : Int) (n_0 : Nat) : Blk := Blk.mk n_0 (Cont.cells [i6 k, i6 a, i6 c] 44) true
set_option maxRecDepth 100000 in
theorem left_vc (f l k a c : Int) {R : AV → Prop} (h : (∀ (n1 n2 n3 : Nat), n2 = n2 ∧ br (insF k) (n1 = n1 ∧ n1 = n1 ∧ (∀ (n4 n5 : Nat), n4 = n4 ∧ Sm (some ((left_k1 f l n1))) ∧ n5 = n5 ∧ n2 = n2 ∧ ∀ (n6 : Nat), n4 = n4 ∧ n6 = n6 ∧ br (decide (f < a)) (n2 = n2 ∧ ∀ (n7 : Nat), n5 = n5 ∧ n7 = n7 ∧ br (decide (l < a)) (n4 = n4 ∧ n5 = n5 ∧ n3 = n3 ∧ n3 = n3 ∧ R (AV.agg [i6 f, i6 l])) (n7 = n7 ∧ br (insF k) (n5 = n5 ∧ n7 = n7 ∧ n5 = n5 ∧ n5 = n5 ∧ n7 = n7 ∧ br (decide (IntKind.i64.wrap (l + c) > mostF k)) (n2 = n2 ∧ n5 = n5 ∧ n2 = n2 ∧ n2 = n2 ∧ n5 = n5 ∧ br (decide (IntKind.i64.wrap (a + c) > mostF k)) (n2 = n2 ∧ n5 = n5 ∧ n4 = n4 ∧ n5 = n5 ∧ n3 = n3 ∧ n3 = n3 ∧ R (AV.agg [i6 f, i6 (IntKind.i64.wrap (a - (1 : Int)))])) (n4 = n4 ∧ n5 = n5 ∧ n3 = n3 ∧ n3 = n3 ∧ R (AV.agg [i6 f, i6 (mostF k)]))) (n4 = n4 ∧ n5 = n5 ∧ n3 = n3 ∧ n3 = n3 ∧ R (AV.agg [i6 f, i6 (IntKind.i64.wrap (l + c))]))) (n5 = n5 ∧ n7 = n7 ∧ n5 = n5 ∧ n5 = n5 ∧ n7 = n7 ∧ br (decide (IntKind.i64.wrap (l - c) < a)) (n4 = n4 ∧ n5 = n5 ∧ n3 = n3 ∧ n3 = n3 ∧ R (AV.agg [i6 f, i6 (IntKind.i64.wrap (l - c))])) (n4 = n4 ∧ n5 = n5 ∧ n3 = n3 ∧ n3 = n3 ∧ R (AV.agg [i6 f, i6 (IntKind.i64.wrap (l - c))]))))) (n6 = n6 ∧ br (insF k) (n4 = n4 ∧ n6 = n6 ∧ n4 = n4 ∧ n4 = n4 ∧ n6 = n6 ∧ br (decide (IntKind.i64.wrap (f + c) > mostF k)) (n3 = n3 ∧ n3 = n3 ∧ R (AV.agg [i6 (0 : Int), i6 (0 : Int)])) (n2 = n2 ∧ ∀ (n7 : Nat), n5 = n5 ∧ n7 = n7 ∧ br (decide (l < a)) (n4 = n4 ∧ n5 = n5 ∧ n3 = n3 ∧ n3 = n3 ∧ R (AV.agg [i6 (IntKind.i64.wrap (f + c)), i6 l])) (n7 = n7 ∧ br (insF k) (n5 = n5 ∧ n7 = n7 ∧ n5
 = n5 ∧ n5 = n5 ∧ n7 = n7 ∧ br (decide (IntKind.i64.wrap (l + c) > mostF k)) (n2 = n2 ∧ n5 = n5 ∧ n2 = n2 ∧ n2 = n2 ∧ n5 = n5 ∧ br (decide (IntKind.i64.wrap (a + c) > mostF k)) (n2 = n2 ∧ n5 = n5 ∧ n4 = n4 ∧ n5 = n5 ∧ n3 = n3 ∧ n3 = n3 ∧ R (AV.agg [i6 (IntKind.i64.wrap (f + c)), i6 (IntKind.i64.wrap (a - (1 : Int)))])) (n4 = n4 ∧ n5 = n5 ∧ n3 = n3 ∧ n3 = n3 ∧ R (AV.agg [i6 (IntKind.i64.wrap (f + c)), i6 (mostF k)]))) (n4 = n4 ∧ n5 = n5 ∧ n3 = n3 ∧ n3 = n3 ∧ R (AV.agg [i6 (IntKind.i64.wrap (f + c)), i6 (IntKind.i64.wrap (l + c))]))) (n5 = n5 ∧ n7 = n7 ∧ n5 = n5 ∧ n5 = n5 ∧ n7 = n7 ∧ br (decide (IntKind.i64.wrap (l - c) < a)) (n4 = n4 ∧ n5 = n5 ∧ n3 = n3 ∧ n3 = n3 ∧ R (AV.agg [i6 (IntKind.i64.wrap (f + c)), i6 (IntKind.i64.wrap (l - c))])) (n4 = n4 ∧ n5 = n5 ∧ n3 = n3 ∧ n3 = n3 ∧ R (AV.agg [i6 (IntKind.i64.wrap (f + c)), i6 (IntKind.i64.wrap (l - c))])))))) (n4 = n4 ∧ n6 = n6 ∧ n4 = n4 ∧ n4 = n4 ∧ n6 = n6 ∧ br (decide (IntKind.i64.wrap (f - c) < a)) (n2 = n2 ∧ ∀ (n7 : Nat), n5 = n5 ∧ n7 = n7 ∧ br (decide (l < a)) (n4 = n4 ∧ n5 = n5 ∧ n3 = n3 ∧ n3 = n3 ∧ R (AV.agg [i6 (IntKind.i64.wrap (f - c)), i6 l])) (n7 = n7 ∧ br (insF k) (n5 = n5 ∧ n7 = n7 ∧ n5 = n5 ∧ n5 = n5 ∧ n7 = n7 ∧ br (decide (IntKind.i64.wrap (l + c) > mostF k)) (n2 = n2 ∧ n5 = n5 ∧ n2 = n2 ∧ n2 = n2 ∧ n5 = n5 ∧ br (decide (IntKind.i64.wrap (a + c) > mostF k)) (n2 = n2 ∧ n5 = n5 ∧ n4 = n4 ∧ n5 = n5 ∧ n3 = n3 ∧ n3 = n3 ∧ R (AV.agg [i6 (IntKind.i64.wrap (f - c)), i6 (IntKind.i64.wrap (a - (1 : Int)))])) (n4 = n4 ∧ n5 =
 n5 ∧ n3 = n3 ∧ n3 = n3 ∧ R (AV.agg [i6 (IntKind.i64.wrap (f - c)), i6 (mostF k)]))) (n4 = n4 ∧ n5 = n5 ∧ n3 = n3 ∧ n3 = n3 ∧ R (AV.agg [i6 (IntKind.i64.wrap (f - c)), i6 (IntKind.i64.wrap (l + c))]))) (n5 = n5 ∧ n7 = n7 ∧ n5 = n5 ∧ n5 = n5 ∧ n7 = n7 ∧ br (decide (IntKind.i64.wrap (l - c) < a)) (n4 = n4 ∧ n5 = n5 ∧ n3 = n3 ∧ n3 = n3 ∧ R (AV.agg [i6 (IntKind.i64.wrap (f - c)), i6 (IntKind.i64.wrap (l - c))])) (n4 = n4 ∧ n5 = n5 ∧ n3 = n3 ∧ n3 = n3 ∧ R (AV.agg [i6 (IntKind.i64.wrap (f - c)), i6 (IntKind.i64.wrap (l - c))]))))) (n2 = n2 ∧ ∀ (n7 : Nat), n5 = n5 ∧ n7 = n7 ∧ br (decide (l < a)) (n4 = n4 ∧ n5 = n5 ∧ n3 = n3 ∧ n3 = n3 ∧ R (AV.agg [i6 (IntKind.i64.wrap (f - c)), i6 l])) (n7 = n7 ∧ br (insF k) (n5 = n5 ∧ n7 = n7 ∧ n5 = n5 ∧ n5 = n5 ∧ n7 = n7 ∧ br (decide (IntKind.i64.wrap (l + c) > mostF k)) (n2 = n2 ∧ n5 = n5 ∧ n2 = n2 ∧ n2 = n2 ∧ n5 = n5 ∧ br (decide (IntKind.i64.wrap (a + c) > mostF k)) (n2 = n2 ∧ n5 = n5 ∧ n4 = n4 ∧ n5 = n5 ∧ n3 = n3 ∧ n3 = n3 ∧ R (AV.agg [i6 (IntKind.i64.wrap (f - c)), i6 (IntKind.i64.wrap (a - (1 : Int)))])) (n4 = n4 ∧ n5 = n5 ∧ n3 = n3 ∧ n3 = n3 ∧ R (AV.agg [i6 (IntKind.i64.wrap (f - c)), i6 (mostF k)]))) (n4 = n4 ∧ n5 = n5 ∧ n3 = n3 ∧ n3 = n3 ∧ R (AV.agg [i6 (IntKind.i64.wrap (f - c)), i6 (IntKind.i64.wrap (l + c))]))) (n5 = n5 ∧ n7 = n7 ∧ n5 = n5 ∧ n5 = n5 ∧ n7 = n7 ∧ br (decide (IntKind.i64.wrap (l - c) < a)) (n4 = n4 ∧ n5 = n5 ∧ n3 = n3 ∧ n3 = n3 ∧ R (AV.agg [i6 (IntKind.i64.wrap (f - c)), i6 (IntKind.i64.wrap (l - c))])) (n4 = n4 ∧ n5 = n5 ∧
 n3 = n3 ∧ n3 = n3 ∧ R (AV.agg [i6 (IntKind.i64.wrap (f - c)), i6 (IntKind.i64.wrap (l - c))])))))))) ∧ ∀ (n4 n5 : Nat), n5 = n5 ∧ Sm (some ((left_k1 f l n1))) ∧ n4 = n4 ∧ n2 = n2 ∧ ∀ (n6 : Nat), n5 = n5 ∧ n6 = n6 ∧ br (decide (f < a)) (n2 = n2 ∧ ∀ (n7 : Nat), n4 = n4 ∧ n7 = n7 ∧ br (decide (l < a)) (n5 = n5 ∧ n4 = n4 ∧ n3 = n3 ∧ n3 = n3 ∧ R (AV.agg [i6 f, i6 l])) (n7 = n7 ∧ br (insF k) (n4 = n4 ∧ n7 = n7 ∧ n4 = n4 ∧ n4 = n4 ∧ n7 = n7 ∧ br (decide (IntKind.i64.wrap (l + c) > mostF k)) (n2 = n2 ∧ n4 = n4 ∧ n2 = n2 ∧ n2 = n2 ∧ n4 = n4 ∧ br (decide (IntKind.i64.wrap (a + c) > mostF k)) (n2 = n2 ∧ n4 = n4 ∧ n5 = n5 ∧ n4 = n4 ∧ n3 = n3 ∧ n3 = n3 ∧ R (AV.agg [i6 f, i6 (IntKind.i64.wrap (a - (1 : Int)))])) (n5 = n5 ∧ n4 = n4 ∧ n3 = n3 ∧ n3 = n3 ∧ R (AV.agg [i6 f, i6 (mostF k)]))) (n5 = n5 ∧ n4 = n4 ∧ n3 = n3 ∧ n3 = n3 ∧ R (AV.agg [i6 f, i6 (IntKind.i64.wrap (l + c))]))) (n4 = n4 ∧ n7 = n7 ∧ n4 = n4 ∧ n4 = n4 ∧ n7 = n7 ∧ br (decide (IntKind.i64.wrap (l - c) < a)) (n5 = n5 ∧ n4 = n4 ∧ n3 = n3 ∧ n3 = n3 ∧ R (AV.agg [i6 f, i6 (IntKind.i64.wrap (l - c))])) (n5 = n5 ∧ n4 = n4 ∧ n3 = n3 ∧ n3 = n3 ∧ R (AV.agg [i6 f, i6 (IntKind.i64.wrap (l - c))]))))) (n6 = n6 ∧ br (insF k) (n5 = n5 ∧ n6 = n6 ∧ n5 = n5 ∧ n5 = n5 ∧ n6 = n6 ∧ br (decide (IntKind.i64.wrap (f + c) > mostF k)) (n3 = n3 ∧ n3 = n3 ∧ R (AV.agg [i6 (0 : Int), i6 (0 : Int)])) (n2 = n2 ∧ ∀ (n7 : Nat), n4 = n4 ∧ n7 = n7 ∧ br (decide (l < a)) (n5 = n5 ∧ n4 = n4 ∧ n3 = n3 ∧ n3 = n3 ∧ R (AV.agg [i6 (IntKind.i64.wrap (f + c)), i6 l])) (n7 =
 n7 ∧ br (insF k) (n4 = n4 ∧ n7 = n7 ∧ n4 = n4 ∧ n4 = n4 ∧ n7 = n7 ∧ br (decide (IntKind.i64.wrap (l + c) > mostF k)) (n2 = n2 ∧ n4 = n4 ∧ n2 = n2 ∧ n2 = n2 ∧ n4 = n4 ∧ br (decide (IntKind.i64.wrap (a + c) > mostF k)) (n2 = n2 ∧ n4 = n4 ∧ n5 = n5 ∧ n4 = n4 ∧ n3 = n3 ∧ n3 = n3 ∧ R (AV.agg [i6 (IntKind.i64.wrap (f + c)), i6 (IntKind.i64.wrap (a - (1 : Int)))])) (n5 = n5 ∧ n4 = n4 ∧ n3 = n3 ∧ n3 = n3 ∧ R (AV.agg [i6 (IntKind.i64.wrap (f + c)), i6 (mostF k)]))) (n5 = n5 ∧ n4 = n4 ∧ n3 = n3 ∧ n3 = n3 ∧ R (AV.agg [i6 (IntKind.i64.wrap (f + c)), i6 (IntKind.i64.wrap (l + c))]))) (n4 = n4 ∧ n7 = n7 ∧ n4 = n4 ∧ n4 = n4 ∧ n7 = n7 ∧ br (decide (IntKind.i64.wrap (l - c) < a)) (n5 = n5 ∧ n4 = n4 ∧ n3 = n3 ∧ n3 = n3 ∧ R (AV.agg [i6 (IntKind.i64.wrap (f + c)), i6 (IntKind.i64.wrap (l - c))])) (n5 = n5 ∧ n4 = n4 ∧ n3 = n3 ∧ n3 = n3 ∧ R (AV.agg [i6 (IntKind.i64.wrap (f + c)), i6 (IntKind.i64.wrap (l - c))])))))) (n5 = n5 ∧ n6 = n6 ∧ n5 = n5 ∧ n5 = n5 ∧ n6 = n6 ∧ br (decide (IntKind.i64.wrap (f - c) < a)) (n2 = n2 ∧ ∀ (n7 : Nat), n4 = n4 ∧ n7 = n7 ∧ br (decide (l < a)) (n5 = n5 ∧ n4 = n4 ∧ n3 = n3 ∧ n3 = n3 ∧ R (AV.agg [i6 (IntKind.i64.wrap (f - c)), i6 l])) (n7 = n7 ∧ br (insF k) (n4 = n4 ∧ n7 = n7 ∧ n4 = n4 ∧ n4 = n4 ∧ n7 = n7 ∧ br (decide (IntKind.i64.wrap (l + c) > mostF k)) (n2 = n2 ∧ n4 = n4 ∧ n2 = n2 ∧ n2 = n2 ∧ n4 = n4 ∧ br (decide (IntKind.i64.wrap (a + c) > mostF k)) (n2 = n2 ∧ n4 = n4 ∧ n5 = n5 ∧ n4 = n4 ∧ n3 = n3 ∧ n3 = n3 ∧ R (AV.agg [i6 (IntKind.i64.wrap (f - c)), i6 (IntKind.i64.wrap
 (a - (1 : Int)))])) (n5 = n5 ∧ n4 = n4 ∧ n3 = n3 ∧ n3 = n3 ∧ R (AV.agg [i6 (IntKind.i64.wrap (f - c)), i6 (mostF k)]))) (n5 = n5 ∧ n4 = n4 ∧ n3 = n3 ∧ n3 = n3 ∧ R (AV.agg [i6 (IntKind.i64.wrap (f - c)), i6 (IntKind.i64.wrap (l + c))]))) (n4 = n4 ∧ n7 = n7 ∧ n4 = n4 ∧ n4 = n4 ∧ n7 = n7 ∧ br (decide (IntKind.i64.wrap (l - c) < a)) (n5 = n5 ∧ n4 = n4 ∧ n3 = n3 ∧ n3 = n3 ∧ R (AV.agg [i6 (IntKind.i64.wrap (f - c)), i6 (IntKind.i64.wrap (l - c))])) (n5 = n5 ∧ n4 = n4 ∧ n3 = n3 ∧ n3 = n3 ∧ R (AV.agg [i6 (IntKind.i64.wrap (f - c)), i6 (IntKind.i64.wrap (l - c))]))))) (n2 = n2 ∧ ∀ (n7 : Nat), n4 = n4 ∧ n7 = n7 ∧ br (decide (l < a)) (n5 = n5 ∧ n4 = n4 ∧ n3 = n3 ∧ n3 = n3 ∧ R (AV.agg [i6 (IntKind.i64.wrap (f - c)), i6 l])) (n7 = n7 ∧ br (insF k) (n4 = n4 ∧ n7 = n7 ∧ n4 = n4 ∧ n4 = n4 ∧ n7 = n7 ∧ br (decide (IntKind.i64.wrap (l + c) > mostF k)) (n2 = n2 ∧ n4 = n4 ∧ n2 = n2 ∧ n2 = n2 ∧ n4 = n4 ∧ br (decide (IntKind.i64.wrap (a + c) > mostF k)) (n2 = n2 ∧ n4 = n4 ∧ n5 = n5 ∧ n4 = n4 ∧ n3 = n3 ∧ n3 = n3 ∧ R (AV.agg [i6 (IntKind.i64.wrap (f - c)), i6 (IntKind.i64.wrap (a - (1 : Int)))])) (n5 = n5 ∧ n4 = n4 ∧ n3 = n3 ∧ n3 = n3 ∧ R (AV.agg [i6 (IntKind.i64.wrap (f - c)), i6 (mostF k)]))) (n5 = n5 ∧ n4 = n4 ∧ n3 = n3 ∧ n3 = n3 ∧ R (AV.agg [i6 (IntKind.i64.wrap (f - c)), i6 (IntKind.i64.wrap (l + c))]))) (n4 = n4 ∧ n7 = n7 ∧ n4 = n4 ∧ n4 = n4 ∧ n7 = n7 ∧ br (decide (IntKind.i64.wrap (l - c) < a)) (n5 = n5 ∧ n4 = n4 ∧ n3 = n3 ∧ n3 = n3 ∧ R (AV.agg [i6 (IntKind.i64.wrap (f - c)), i6 (IntKind.i64.wrap
 (l - c))])) (n5 = n5 ∧ n4 = n4 ∧ n3 = n3 ∧ n3 = n3 ∧ R (AV.agg [i6 (IntKind.i64.wrap (f - c)), i6 (IntKind.i64.wrap (l - c))])))))))) (n2 = n2 ∧ n2 = n2 ∧ ∀ (n4 : Nat), n4 = n4 ∧ n1 = n1 ∧ n2 = n2 ∧ br (decide (f ≥ a)) (n1 = n1 ∧ n4 = n4 ∧ br (decide (l < IntKind.i64.wrap (a + c))) (n3 = n3 ∧ n3 = n3 ∧ R (AV.agg [i6 (0 : Int), i6 (0 : Int)])) (n1 = n1 ∧ n2 = n2 ∧ n1 = n1 ∧ n2 = n2 ∧ n2 = n2 ∧ br (decide (f < a)) (Sm (some ((left_k2 k a c n2))) ∧ Sm (some ((left_k1 f l n1))) ∧ n2 = n2 ∧ br (decide (l < a)) (Sm (some ((left_k2 k a c n2))) ∧ Sm (some ((left_k2 k a c n2))) ∧ Sm (some ((left_k1 f l n1))) ∧ n3 = n3 ∧ n3 = n3 ∧ R (AV.agg [i6 f, i6 l])) (n4 = n4 ∧ br (decide (l < IntKind.i64.wrap (a + c))) (Sm (some ((left_k2 k a c n2))) ∧ Sm (some ((left_k2 k a c n2))) ∧ Sm (some ((left_k1 f l n1))) ∧ n3 = n3 ∧ n3 = n3 ∧ R (AV.agg [i6 f, i6 (IntKind.i64.wrap (a - (1 : Int)))])) (n2 = n2 ∧ Sm (some ((left_k2 k a c n2))) ∧ Sm (some ((left_k2 k a c n2))) ∧ Sm (some ((left_k1 f l n1))) ∧ n3 = n3 ∧ n3 = n3 ∧ R (AV.agg [i6 f, i6 (IntKind.i64.wrap (l - c))])))) (n4 = n4 ∧ br (decide (f < IntKind.i64.wrap (a + c))) (Sm (some ((left_k2 k a c n2))) ∧ Sm (some ((left_k1 f l n1))) ∧ n2 = n2 ∧ br (decide (l < a)) (Sm (some ((left_k2 k a c n2))) ∧ Sm (some ((left_k2 k a c n2))) ∧ Sm (some ((left_k1 f l n1))) ∧ n3 = n3 ∧ n3 = n3 ∧ R (AV.agg [i6 a, i6 l])) (n4 = n4 ∧ br (decide (l < IntKind.i64.wrap (a + c))) (Sm (some ((left_k2 k a c n2))) ∧ Sm (some ((left_k2 k a c n2))) ∧ Sm (some ((left_k1 f l
 n1))) ∧ n3 = n3 ∧ n3 = n3 ∧ R (AV.agg [i6 a, i6 (IntKind.i64.wrap (a - (1 : Int)))])) (n2 = n2 ∧ Sm (some ((left_k2 k a c n2))) ∧ Sm (some ((left_k2 k a c n2))) ∧ Sm (some ((left_k1 f l n1))) ∧ n3 = n3 ∧ n3 = n3 ∧ R (AV.agg [i6 a, i6 (IntKind.i64.wrap (l - c))])))) (n2 = n2 ∧ Sm (some ((left_k2 k a c n2))) ∧ Sm (some ((left_k1 f l n1))) ∧ n2 = n2 ∧ br (decide (l < a)) (Sm (some ((left_k2 k a c n2))) ∧ Sm (some ((left_k2 k a c n2))) ∧ Sm (some ((left_k1 f l n1))) ∧ n3 = n3 ∧ n3 = n3 ∧ R (AV.agg [i6 (IntKind.i64.wrap (f - c)), i6 l])) (n4 = n4 ∧ br (decide (l < IntKind.i64.wrap (a + c))) (Sm (some ((left_k2 k a c n2))) ∧ Sm (some ((left_k2 k a c n2))) ∧ Sm (some ((left_k1 f l n1))) ∧ n3 = n3 ∧ n3 = n3 ∧ R (AV.agg [i6 (IntKind.i64.wrap (f - c)), i6 (IntKind.i64.wrap (a - (1 : Int)))])) (n2 = n2 ∧ Sm (some ((left_k2 k a c n2))) ∧ Sm (some ((left_k2 k a c n2))) ∧ Sm (some ((left_k1 f l n1))) ∧ n3 = n3 ∧ n3 = n3 ∧ R (AV.agg [i6 (IntKind.i64.wrap (f - c)), i6 (IntKind.i64.wrap (l - c))]))))))) (n1 = n1 ∧ n2 = n2 ∧ n1 = n1 ∧ n2 = n2 ∧ n2 = n2 ∧ br (decide (f < a)) (Sm (some ((left_k2 k a c n2))) ∧ Sm (some ((left_k1 f l n1))) ∧ n2 = n2 ∧ br (decide (l < a)) (Sm (some ((left_k2 k a c n2))) ∧ Sm (some ((left_k2 k a c n2))) ∧ Sm (some ((left_k1 f l n1))) ∧ n3 = n3 ∧ n3 = n3 ∧ R (AV.agg [i6 f, i6 l])) (n4 = n4 ∧ br (decide (l < IntKind.i64.wrap (a + c))) (Sm (some ((left_k2 k a c n2))) ∧ Sm (some ((left_k2 k a c n2))) ∧ Sm (some ((left_k1 f l n1))) ∧ n3 = n3 ∧ n3 = n3 ∧ R (AV.agg [i6 f,
 i6 (IntKind.i64.wrap (a - (1 : Int)))])) (n2 = n2 ∧ Sm (some ((left_k2 k a c n2))) ∧ Sm (some ((left_k2 k a c n2))) ∧ Sm (some ((left_k1 f l n1))) ∧ n3 = n3 ∧ n3 = n3 ∧ R (AV.agg [i6 f, i6 (IntKind.i64.wrap (l - c))])))) (n4 = n4 ∧ br (decide (f < IntKind.i64.wrap (a + c))) (Sm (some ((left_k2 k a c n2))) ∧ Sm (some ((left_k1 f l n1))) ∧ n2 = n2 ∧ br (decide (l < a)) (Sm (some ((left_k2 k a c n2))) ∧ Sm (some ((left_k2 k a c n2))) ∧ Sm (some ((left_k1 f l n1))) ∧ n3 = n3 ∧ n3 = n3 ∧ R (AV.agg [i6 a, i6 l])) (n4 = n4 ∧ br (decide (l < IntKind.i64.wrap (a + c))) (Sm (some ((left_k2 k a c n2))) ∧ Sm (some ((left_k2 k a c n2))) ∧ Sm (some ((left_k1 f l n1))) ∧ n3 = n3 ∧ n3 = n3 ∧ R (AV.agg [i6 a, i6 (IntKind.i64.wrap (a - (1 : Int)))])) (n2 = n2 ∧ Sm (some ((left_k2 k a c n2))) ∧ Sm (some ((left_k2 k a c n2))) ∧ Sm (some ((left_k1 f l n1))) ∧ n3 = n3 ∧ n3 = n3 ∧ R (AV.agg [i6 a, i6 (IntKind.i64.wrap (l - c))])))) (n2 = n2 ∧ Sm (some ((left_k2 k a c n2))) ∧ Sm (some ((left_k1 f l n1))) ∧ n2 = n2 ∧ br (decide (l < a)) (Sm (some ((left_k2 k a c n2))) ∧ Sm (some ((left_k2 k a c n2))) ∧ Sm (some ((left_k1 f l n1))) ∧ n3 = n3 ∧ n3 = n3 ∧ R (AV.agg [i6 (IntKind.i64.wrap (f - c)), i6 l])) (n4 = n4 ∧ br (decide (l < IntKind.i64.wrap (a + c))) (Sm (some ((left_k2 k a c n2))) ∧ Sm (some ((left_k2 k a c n2))) ∧ Sm (some ((left_k1 f l n1))) ∧ n3 = n3 ∧ n3 = n3 ∧ R (AV.agg [i6 (IntKind.i64.wrap (f - c)), i6 (IntKind.i64.wrap (a - (1 : Int)))])) (n2 = n2 ∧ Sm (some ((left_k2 k a c n2))) ∧ Sm (some
 ((left_k2 k a c n2))) ∧ Sm (some ((left_k1 f l n1))) ∧ n3 = n3 ∧ n3 = n3 ∧ R (AV.agg [i6 (IntKind.i64.wrap (f - c)), i6 (IntKind.i64.wrap (l - c))]))))))))) : LC Try.prog 58 [.agg [.v (.int .i64 f), .v (.int .i64 l)], .agg [.v (.int .i64 k), .v (.int .i64 a), .v (.int .i64 c)]] [] (fun z_ _ => R z_) :=
  lc_of_exec (tbl := mt10) tab_ok mt10_ok mixed noinv 2 _ Try.func58 rfl Try.ntmps58 (by decide) (by kernel_rfl) (Nat.le_of_ble_eq_true rfl) (@Eq.mpr (execN tab mt10 noinv 2 Try.f58.ntmps [] none 0 (body Try.f58) (argsT [.agg [.v (.int .i64 f), .v (.int .i64 l)], .agg [.v (.int .i64 k), .v (.int .i64 a), .v (.int .i64 c)]] 0) [] (post Try.f58 tab (retK (fun z_ _ => R z_)))) _ (by kernel_rfl) h)
set_option maxRecDepth 100000 in
theorem left_lc (f l k a c : Int) : LC Try.prog 58 [.agg [.v (.int .i64 f), .v (.int .i64 l)], .agg [.v (.int .i64 k), .v (.int .i64 a), .v (.int .i64 c)]] [] (fun z_ _ => z_ = .agg [.v (.int .i64 (lfA k a c f l)), .v (.int .i64 (lfB k a c f l))]) :=
  left_vc f l k a c (by
    intros
    simp only [true_and, and_true, br_iff, AV.v.injEq, AV.tup.injEq, AV.agg.injEq, List.cons.injEq, Value.bool.injEq, Value.int.injEq, decide_eq_true_eq, decide_eq_false_iff_not, ifB, lfA, lfB, lfNone, dn, stepN, stepT]
    repeat' (first | (refine ⟨?_, ?_⟩) | intro _)
    all_goals (first | trivial | omega | (simp_all; done) | (simp_all; omega) | (rw [Bool.eq_iff_iff]; simp (config := {failIfUnchanged := false}) only [decide_eq_true_eq, Bool.false_eq_true, false_iff, iff_false, true_iff, iff_true, Bool.and_eq_true, Bool.or_eq_true]; omega) | (simp_all; rw [Bool.eq_iff_iff]; simp <;> omega)))
def leftH : List AV → Option AV
  | [.agg [.v (.int .i64 f), .v (.int .i64 l)], .agg [.v (.int .i64 k), .v (.int .i64 a), .v (.int .i64 c)]] => some (.agg [.v (.int .i64 (lfA k a c f l)), .v (.int .i64 (lfB k a c f l))])
  | _ => none
theorem left_ok : POk Try.prog 58 leftH := POk.of_lc (enters_of (c := body Try.f58) Try.func58 rfl (by kernel_rfl)) (by
  intro args v h
  unfold leftH at h
  split at h
  · cases h; exact left_lc _ _ _ _ _
  · cases h)
def mt11 : Tbl := (58, .pure leftH) :: mt10
theorem mt11_ok : TblOk Try.prog mt11 := ⟨left_ok, mt10_ok⟩
def lnT (k a c n : Int) : Int := if n < a then 0 else if insF k then (if IntKind.i64.wrap (n + c) > mostF k then 2 else 0) else if n < IntKind.i64.wrap (a + c) then 1 else 0
def lnN (k a c n : Int) : Int := ifB (decide (lnT k a c n = 0)) (stepN k a c n) 0
set_option maxRecDepth 100000 in
theorem line_vc (k a c n : Int) {R : AV → Prop} (h : (∀ (n1 : Nat), n1 = n1 ∧ br (decide (n < a)) (R (AV.tup [AV.v (Value.int IntKind.i64 n), AV.v (Value.int IntKind.i64 (0 : Int))])) (n1 = n1 ∧ br (k == (1 : Int)) (n1 = n1 ∧ n1 = n1 ∧ br (decide (IntKind.i64.wrap (n + c) > mostF k)) (R (AV.tup [AV.v (Value.int IntKind.i64 (0 : Int)), AV.v (Value.int IntKind.i64 (2 : Int))])) (n1 = n1 ∧ R (AV.tup [AV.v (Value.int IntKind.i64 (IntKind.i64.wrap (n + c))), AV.v (Value.int IntKind.i64 (0 : Int))]))) (n1 = n1 ∧ br (k == (3 : Int)) (n1 = n1 ∧ n1 = n1 ∧ br (decide (IntKind.i64.wrap (n + c) > mostF k)) (R (AV.tup [AV.v (Value.int IntKind.i64 (0 : Int)), AV.v (Value.int IntKind.i64 (2 : Int))])) (n1 = n1 ∧ R (AV.tup [AV.v (Value.int IntKind.i64 (IntKind.i64.wrap (n + c))), AV.v (Value.int IntKind.i64 (0 : Int))]))) (n1 = n1 ∧ n1 = n1 ∧ br (decide (n < IntKind.i64.wrap (a + c))) (R (AV.tup [AV.v (Value.int IntKind.i64 (0 : Int)), AV.v (Value.int IntKind.i64 (1 : Int))])) (n1 = n1 ∧ R (AV.tup [AV.v (Value.int IntKind.i64 (IntKind.i64.wrap (n - c))), AV.v (Value.int IntKind.i64 (0 : Int))]))))))) : LC Try.prog 96 [.agg [.v (.int .i64 k), .v (.int .i64 a), .v (.int .i64 c)], .v (.int .i64 n)] [] (fun z_ _ => R z_) :=
  lc_of_exec (tbl := mt11) tab_ok mt11_ok mixed noinv 2 _ Try.func96 rfl Try.ntmps96 (by decide) (by kernel_rfl) (Nat.le_of_ble_eq_true rfl) (@Eq.mpr (execN tab mt11 noinv 2 Try.f96.ntmps [] none 0 (body Try.f96) (argsT [.agg [.v (.int .i64 k), .v (.int .i64 a), .v (.int .i64 c)], .v (.int .i64 n)] 0) [] (post Try.f96 tab (retK (fun z_ _ => R z_)))) _ (by kernel_rfl) h)
set_option maxRecDepth 100000 in
theorem line_lc (k a c n : Int) : LC Try.prog 96 [.agg [.v (.int .i64 k), .v (.int .i64 a), .v (.int .i64 c)], .v (.int .i64 n)] [] (fun z_ _ => z_ = .tup [.v (.int .i64 (lnN k a c n)), .v (.int .i64 (lnT k a c n))]) :=
  line_vc k a c n (by
    intros
    simp only [true_and, and_true, br_iff, AV.v.injEq, AV.tup.injEq, AV.agg.injEq, List.cons.injEq, Value.bool.injEq, Value.int.injEq, decide_eq_true_eq, decide_eq_false_iff_not, ifB, lnN, lnT, stepN, insF]
    repeat' (first | (refine ⟨?_, ?_⟩) | intro _)
    all_goals (first | trivial | omega | (simp_all; done) | (simp_all; omega) | (rw [Bool.eq_iff_iff]; simp (config := {failIfUnchanged := false}) only [decide_eq_true_eq, Bool.false_eq_true, false_iff, iff_false, true_iff, iff_true, Bool.and_eq_true, Bool.or_eq_true]; omega) | (simp_all; rw [Bool.eq_iff_iff]; simp <;> omega)))
def lineH : List AV → Option AV
  | [.agg [.v (.int .i64 k), .v (.int .i64 a), .v (.int .i64 c)], .v (.int .i64 n)] => some (.tup [.v (.int .i64 (lnN k a c n)), .v (.int .i64 (lnT k a c n))])
  | _ => none
theorem line_ok : POk Try.prog 96 lineH := POk.of_lc (enters_of (c := body Try.f96) Try.func96 rfl (by kernel_rfl)) (by
  intro args v h
  unfold lineH at h
  split at h
  · cases h; exact line_lc _ _ _ _
  · cases h)
def mt12 : Tbl := (96, .pure lineH) :: mt11
theorem mt12_ok : TblOk Try.prog mt12 := ⟨line_ok, mt11_ok⟩
def goodR (k a c t l b r : Int) : Bool := rightF k a c && okR t l b r
def spA (k t l : Int) : Int := if rowsF k then t else l
def spB (k b r : Int) : Int := if rowsF k then b else r
def rcA (k a c t l b r : Int) : Int := lfA k a c (spA k t l) (spB k b r)
def rcB (k a c t l b r : Int) : Int := lfB k a c (spA k t l) (spB k b r)
def rcOk (k a c t l b r : Int) : Bool := goodR k a c t l b r && !(decide (rcA k a c t l b r = 0) && decide (rcB k a c t l b r = 0))
def rcT (k a c t l b r : Int) : Int := ifB (rcOk k a c t l b r) (if rowsF k then rcA k a c t l b r else t) 0
def rcL (k a c t l b r : Int) : Int := ifB (rcOk k a c t l b r) (if rowsF k then l else rcA k a c t l b r) 0
def rcD (k a c t l b r : Int) : Int := ifB (rcOk k a c t l b r) (if rowsF k then rcB k a c t l b r else b) 0
def rcR (k a c t l b r : Int) : Int := ifB (rcOk k a c t l b r) (if rowsF k then r else rcB k a c t l b r) 0
set_option maxRecDepth 100000 in
theorem rect_vc (k a c t l b r : Int) {R : AV → Prop} (h : (∀ (n1 n2 n3 : Nat), n1 = n1 ∧ br (ifB (rightF k a c) (0 : Int) (2 : Int) != (0 : Int)) (n3 = n3 ∧ n3 = n3 ∧ R (AV.tup [AV.agg [i6 (0 : Int), i6 (0 : Int), i6 (0 : Int), i6 (0 : Int)], bF, i6 (2 : Int)])) (n2 = n2 ∧ br (ifB (okR t l b r) (0 : Int) (2 : Int) != (0 : Int)) (n3 = n3 ∧ n3 = n3 ∧ R (AV.tup [AV.agg [i6 (0 : Int), i6 (0 : Int), i6 (0 : Int), i6 (0 : Int)], bF, i6 (2 : Int)])) (n2 = n2 ∧ n2 = n2 ∧ ∀ (n4 : Nat), n4 = n4 ∧ n1 = n1 ∧ br (rowsF k) (n2 = n2 ∧ n2 = n2 ∧ n4 = n4 ∧ n4 = n4 ∧ n1 = n1 ∧ n4 = n4 ∧ n4 = n4 ∧ br (lfA k a c t b == (0 : Int) && (lfB k a c t b == (0 : Int) && true)) (n3 = n3 ∧ n3 = n3 ∧ R (AV.tup [AV.agg [i6 (0 : Int), i6 (0 : Int), i6 (0 : Int), i6 (0 : Int)], bF, i6 (0 : Int)])) (n1 = n1 ∧ br (rowsF k) (n4 = n4 ∧ n4 = n4 ∧ n2 = n2 ∧ Sm (some (Blk.mk n4 (Cont.cells [i6 (lfA k a c t b), i6 (lfB k a c t b)] 85) true)) ∧ n2 = n2 ∧ n2 = n2 ∧ n3 = n3 ∧ n3 = n3 ∧ R (AV.tup [AV.agg [i6 (lfA k a c t b), i6 l, i6 (lfB k a c t b), i6 r], bT, i6 (0 : Int)])) (n4 = n4 ∧ n4 = n4 ∧ n2 = n2 ∧ Sm (some (Blk.mk n4 (Cont.cells [i6 (lfA k a c t b), i6 (lfB k a c t b)] 85) true)) ∧ n2 = n2 ∧ n2 = n2 ∧ n3 = n3 ∧ n3 = n3 ∧ R (AV.tup [AV.agg [i6 t, i6 (lfA k a c t b), i6 b, i6 (lfB k a c t b)], bT, i6 (0 : Int)])))) (n4 = n4 ∧ n1 = n1 ∧ n4 = n4 ∧ n4 = n4 ∧ br (lfA k a c l r == (0 : Int) && (lfB k a c l r == (0 : Int) && true)) (n3 = n3 ∧ n3 = n3 ∧ R (AV.tup [AV.agg [i6 (0 : Int), i6 (0 : Int), i6 (0 : Int), i6 (0 : Int)], bF, i6 (0 : Int)])) (n1 = n1 ∧ br (rowsF k) (n4 = n4
 ∧ n4 = n4 ∧ n2 = n2 ∧ Sm (some (Blk.mk n4 (Cont.cells [i6 (lfA k a c l r), i6 (lfB k a c l r)] 85) true)) ∧ n2 = n2 ∧ n2 = n2 ∧ n3 = n3 ∧ n3 = n3 ∧ R (AV.tup [AV.agg [i6 (lfA k a c l r), i6 l, i6 (lfB k a c l r), i6 r], bT, i6 (0 : Int)])) (n4 = n4 ∧ n4 = n4 ∧ n2 = n2 ∧ Sm (some (Blk.mk n4 (Cont.cells [i6 (lfA k a c l r), i6 (lfB k a c l r)] 85) true)) ∧ n2 = n2 ∧ n2 = n2 ∧ n3 = n3 ∧ n3 = n3 ∧ R (AV.tup [AV.agg [i6 t, i6 (lfA k a c l r), i6 b, i6 (lfB k a c l r)], bT, i6 (0 : Int)])))))))) : LC Try.prog 41 [.agg [.v (.int .i64 k), .v (.int .i64 a), .v (.int .i64 c)], .agg [.v (.int .i64 t), .v (.int .i64 l), .v (.int .i64 b), .v (.int .i64 r)]] [] (fun z_ _ => R z_) :=
  lc_of_exec (tbl := mt12) tab_ok mt12_ok mixed noinv 2 _ Try.func41 rfl Try.ntmps41 (by decide) (by kernel_rfl) (Nat.le_of_ble_eq_true rfl) (@Eq.mpr (execN tab mt12 noinv 2 Try.f41.ntmps [] none 0 (body Try.f41) (argsT [.agg [.v (.int .i64 k), .v (.int .i64 a), .v (.int .i64 c)], .agg [.v (.int .i64 t), .v (.int .i64 l), .v (.int .i64 b), .v (.int .i64 r)]] 0) [] (post Try.f41 tab (retK (fun z_ _ => R z_)))) _ (by kernel_rfl) h)
set_option maxRecDepth 100000 in
theorem rect_lc (k a c t l b r : Int) : LC Try.prog 41 [.agg [.v (.int .i64 k), .v (.int .i64 a), .v (.int .i64 c)], .agg [.v (.int .i64 t), .v (.int .i64 l), .v (.int .i64 b), .v (.int .i64 r)]] [] (fun z_ _ => z_ = .tup [.agg [.v (.int .i64 (rcT k a c t l b r)), .v (.int .i64 (rcL k a c t l b r)), .v (.int .i64 (rcD k a c t l b r)), .v (.int .i64 (rcR k a c t l b r))], .v (.bool (rcOk k a c t l b r)), .v (.int .i64 (ifB (goodR k a c t l b r) 0 2))]) :=
  rect_vc k a c t l b r (by
    intros
    simp only [true_and, and_true, br_iff, AV.v.injEq, AV.tup.injEq, AV.agg.injEq, List.cons.injEq, Value.bool.injEq, Value.int.injEq, decide_eq_true_eq, decide_eq_false_iff_not, ifB, rcT, rcL, rcD, rcR, rcOk, rcA, rcB, spA, spB, goodR]
    repeat' (first | (refine ⟨?_, ?_⟩) | intro _)
    all_goals (first | trivial | omega | (simp_all; done) | (simp_all; omega) | (rw [Bool.eq_iff_iff]; simp (config := {failIfUnchanged := false}) only [decide_eq_true_eq, Bool.false_eq_true, false_iff, iff_false, true_iff, iff_true, Bool.and_eq_true, Bool.or_eq_true]; omega) | (simp_all; rw [Bool.eq_iff_iff]; simp <;> omega)))
def rectH : List AV → Option AV
  | [.agg [.v (.int .i64 k), .v (.int .i64 a), .v (.int .i64 c)], .agg [.v (.int .i64 t), .v (.int .i64 l), .v (.int .i64 b), .v (.int .i64 r)]] => some (.tup [.agg [.v (.int .i64 (rcT k a c t l b r)), .v (.int .i64 (rcL k a c t l b r)), .v (.int .i64 (rcD k a c t l b r)), .v (.int .i64 (rcR k a c t l b r))], .v (.bool (rcOk k a c t l b r)), .v (.int .i64 (ifB (goodR k a c t l b r) 0 2))])
  | _ => none
theorem rect_ok : POk Try.prog 41 rectH := POk.of_lc (enters_of (c := body Try.f41) Try.func41 rfl (by kernel_rfl)) (by
  intro args v h
  unfold rectH at h
  split at h
  · cases h; exact rect_lc _ _ _ _ _ _ _
  · cases h)
def mt13 : Tbl := (41, .pure rectH) :: mt12
theorem mt13_ok : TblOk Try.prog mt13 := ⟨rect_ok, mt12_ok⟩
def clF (k a c t l b r : Int) : Bool := goodR k a c t l b r && (if insF k then decide (stepT k a c (spB k b r) = 2) else decide (spB k b r ≥ a) && decide (spA k t l < IntKind.i64.wrap (a + c)))
set_option maxRecDepth 100000 in
theorem clips_vc (k a c t l b r : Int) {R : AV → Prop} (h : (∀ (n1 n2 : Nat), n1 = n1 ∧ br (ifB (rightF k a c) (0 : Int) (2 : Int) != (0 : Int)) (R (AV.tup [AV.v (Value.bool false), AV.v (Value.int IntKind.i64 (2 : Int))])) (n2 = n2 ∧ br (ifB (okR t l b r) (0 : Int) (2 : Int) != (0 : Int)) (R (AV.tup [AV.v (Value.bool false), AV.v (Value.int IntKind.i64 (2 : Int))])) (n2 = n2 ∧ n2 = n2 ∧ ∀ (n3 : Nat), n3 = n3 ∧ n1 = n1 ∧ br (rowsF k) (n2 = n2 ∧ n2 = n2 ∧ n3 = n3 ∧ n1 = n1 ∧ br (insF k) (n1 = n1 ∧ ∀ (n4 : Nat), n3 = n3 ∧ n4 = n4 ∧ br (decide (b < a)) (R (AV.tup [AV.v (Value.bool false), AV.v (Value.int IntKind.i64 (0 : Int))])) (n4 = n4 ∧ br (insF k) (n3 = n3 ∧ n4 = n4 ∧ n3 = n3 ∧ n3 = n3 ∧ n4 = n4 ∧ br (decide (IntKind.i64.wrap (b + c) > mostF k)) (R (AV.tup [AV.v (Value.bool true), AV.v (Value.int IntKind.i64 (0 : Int))])) (R (AV.tup [AV.v (Value.bool false), AV.v (Value.int IntKind.i64 (0 : Int))]))) (n3 = n3 ∧ n4 = n4 ∧ n3 = n3 ∧ n3 = n3 ∧ n4 = n4 ∧ br (decide (IntKind.i64.wrap (b - c) < a)) (R (AV.tup [AV.v (Value.bool false), AV.v (Value.int IntKind.i64 (0 : Int))])) (R (AV.tup [AV.v (Value.bool false), AV.v (Value.int IntKind.i64 (0 : Int))]))))) (n3 = n3 ∧ n1 = n1 ∧ br (decide (b ≥ a)) (n3 = n3 ∧ n1 = n1 ∧ n1 = n1 ∧ R (AV.tup [AV.v (Value.bool (decide (t < IntKind.i64.wrap (a + c)))), AV.v (Value.int IntKind.i64 (0 : Int))])) (R (AV.tup [AV.v (Value.bool false), AV.v (Value.int IntKind.i64 (0 : Int))])))) (n1 = n1 ∧ br (insF k) (n1 = n1 ∧ ∀ (n4 : Nat), n3 = n3 ∧ n4 = n4 ∧ br (decide (r < a)) (R (AV.tup [AV.v (Value.bool false), AV.v (Value.int IntKind.i64 (0 : Int))])) (n4 = n4 ∧ br (insF k) (n3 = n3 ∧ n4 = n4 ∧ n3 = n3 ∧ n3 = n3 ∧ n4 = n4 ∧ br (decide (IntKind.i64.wrap (r + c) > mostF k)) (R (AV.tup [AV.v (Value.bool true), AV.v (Value.int IntKind.i64 (0 : Int))])) (R (AV.tup [AV.v (Value.bool false), AV.v (Value.int IntKind.i64 (0 : Int))]))) (n3 = n3 ∧ n4 = n4 ∧ n3 = n3 ∧ n3 = n3 ∧ n4 = n4 ∧ br (decide (IntKind.i64.wrap (r - c) < a)) (R (AV.tup [AV.v (Value.bool false), AV.v (Value.int IntKind.i64 (0 : Int))])) (R (AV.tup [AV.v (Value.bool false), AV.v (Value.int IntKind.i64 (0 : Int))]))))) (n3 = n3 ∧ n1 = n1 ∧ br (decide (r ≥ a)) (n3 = n3 ∧ n1 = n1 ∧ n1 = n1 ∧ R (AV.tup [AV.v (Value.bool (decide (l < IntKind.i64.wrap (a + c)))), AV.v (Value.int IntKind.i64 (0 : Int))])) (R (AV.tup [AV.v (Value.bool false), AV.v (Value.int IntKind.i64 (0 : Int))])))))))) : LC Try.prog 19 [.agg [.v (.int .i64 k), .v (.int .i64 a), .v (.int .i64 c)], .agg [.v (.int .i64 t), .v (.int .i64 l), .v (.int .i64 b), .v (.int .i64 r)]] [] (fun z_ _ => R z_) :=
  lc_of_exec (tbl := mt13) tab_ok mt13_ok mixed noinv 2 _ Try.func19 rfl Try.ntmps19 (by decide) (by kernel_rfl) (Nat.le_of_ble_eq_true rfl) (@Eq.mpr (execN tab mt13 noinv 2 Try.f19.ntmps [] none 0 (body Try.f19) (argsT [.agg [.v (.int .i64 k), .v (.int .i64 a), .v (.int .i64 c)], .agg [.v (.int .i64 t), .v (.int .i64 l), .v (.int .i64 b), .v (.int .i64 r)]] 0) [] (post Try.f19 tab (retK (fun z_ _ => R z_)))) _ (by kernel_rfl) h)
set_option maxRecDepth 100000 in
theorem clips_lc (k a c t l b r : Int) : LC Try.prog 19 [.agg [.v (.int .i64 k), .v (.int .i64 a), .v (.int .i64 c)], .agg [.v (.int .i64 t), .v (.int .i64 l), .v (.int .i64 b), .v (.int .i64 r)]] [] (fun z_ _ => z_ = .tup [.v (.bool (clF k a c t l b r)), .v (.int .i64 (ifB (goodR k a c t l b r) 0 2))]) :=
  clips_vc k a c t l b r (by
    intros
    simp only [true_and, and_true, br_iff, AV.v.injEq, AV.tup.injEq, AV.agg.injEq, List.cons.injEq, Value.bool.injEq, Value.int.injEq, decide_eq_true_eq, decide_eq_false_iff_not, ifB, clF, spA, spB, goodR, stepT]
    repeat' (first | (refine ⟨?_, ?_⟩) | intro _)
    all_goals (first | trivial | omega | (simp_all; done) | (simp_all; omega) | (rw [Bool.eq_iff_iff]; simp (config := {failIfUnchanged := false}) only [decide_eq_true_eq, Bool.false_eq_true, false_iff, iff_false, true_iff, iff_true, Bool.and_eq_true, Bool.or_eq_true]; omega) | (simp_all; rw [Bool.eq_iff_iff]; simp <;> omega)))
def clipsH : List AV → Option AV
  | [.agg [.v (.int .i64 k), .v (.int .i64 a), .v (.int .i64 c)], .agg [.v (.int .i64 t), .v (.int .i64 l), .v (.int .i64 b), .v (.int .i64 r)]] => some (.tup [.v (.bool (clF k a c t l b r)), .v (.int .i64 (ifB (goodR k a c t l b r) 0 2))])
  | _ => none
theorem clips_ok : POk Try.prog 19 clipsH := POk.of_lc (enters_of (c := body Try.f19) Try.func19 rfl (by kernel_rfl)) (by
  intro args v h
  unfold clipsH at h
  split at h
  · cases h; exact clips_lc _ _ _ _ _ _ _
  · cases h)
def mt14 : Tbl := (19, .pure clipsH) :: mt13
theorem mt14_ok : TblOk Try.prog mt14 := ⟨clips_ok, mt13_ok⟩
def enOk (k a c f l : Int) : Bool := if lnT k a c f = 1 then !decide (l < IntKind.i64.wrap (a + c)) && !decide (lnT k a c (IntKind.i64.wrap (a + c)) = 2) else !decide (lnT k a c f = 2)
def enA (k a c f l : Int) : Int := ifB (enOk k a c f l) (if lnT k a c f = 1 then lnN k a c (IntKind.i64.wrap (a + c)) else lnN k a c f) 0
def enB (k a c f l : Int) : Int := ifB (enOk k a c f l) (if lnT k a c l = 1 then IntKind.i64.wrap (a - 1) else if lnT k a c l = 2 then (if f < a ∧ IntKind.i64.wrap (a + c) > mostF k then IntKind.i64.wrap (a - 1) else mostF k) else lnN k a c l) 0
set_option maxRecDepth 100000 in
theorem ends_vc (k a c f l : Int) {R : AV → Prop} (h : (∀ (n1 : Nat), n1 = n1 ∧ br (lnT k a c f == (1 : Int)) (n1 = n1 ∧ n1 = n1 ∧ br (decide (l < IntKind.i64.wrap (a + c))) (R (AV.tup [AV.v (Value.int IntKind.i64 (0 : Int)), AV.v (Value.int IntKind.i64 (0 : Int)), AV.v (Value.bool false)])) (n1 = n1 ∧ n1 = n1 ∧ n1 = n1 ∧ br (lnT k a c (IntKind.i64.wrap (a + c)) == (2 : Int)) (R (AV.tup [AV.v (Value.int IntKind.i64 (0 : Int)), AV.v (Value.int IntKind.i64 (0 : Int)), AV.v (Value.bool false)])) (n1 = n1 ∧ br (lnT k a c l == (1 : Int)) (n1 = n1 ∧ R (AV.tup [AV.v (Value.int IntKind.i64 (lnN k a c (IntKind.i64.wrap (a + c)))), AV.v (Value.int IntKind.i64 (IntKind.i64.wrap (a - (1 : Int)))), AV.v (Value.bool true)])) (br (lnT k a c l == (2 : Int)) (n1 = n1 ∧ n1 = n1 ∧ br (decide (f < a)) (n1 = n1 ∧ n1 = n1 ∧ n1 = n1 ∧ br (decide (IntKind.i64.wrap (a + c) > mostF k)) (n1 = n1 ∧ R (AV.tup [AV.v (Value.int IntKind.i64 (lnN k a c (IntKind.i64.wrap (a + c)))), AV.v (Value.int IntKind.i64 (IntKind.i64.wrap (a - (1 : Int)))), AV.v (Value.bool true)])) (R (AV.tup [AV.v (Value.int IntKind.i64 (lnN k a c (IntKind.i64.wrap (a + c)))), AV.v (Value.int IntKind.i64 (mostF k)), AV.v (Value.bool true)]))) (R (AV.tup [AV.v (Value.int IntKind.i64 (lnN k a c (IntKind.i64.wrap (a + c)))), AV.v (Value.int IntKind.i64 (mostF k)), AV.v (Value.bool true)]))) (R (AV.tup [AV.v (Value.int IntKind.i64 (lnN k a c (IntKind.i64.wrap (a + c)))), AV.v (Value.int IntKind.i64 (lnN k a c l)), AV.v (Value.bool true)])))))) (br (lnT k a c f == (2 : Int)) (R (AV.tup [AV.v (Value.int IntKind.i64 (0 : Int)), AV.v (Value.int IntKind.i64 (0 : Int)), AV.v (Value.bool false)])) (n1 = n1 ∧ br (lnT k a c l == (1 : Int)) (n1 = n1 ∧ R (AV.tup [AV.v (Value.int IntKind.i64 (lnN k a c f)), AV.v (Value.int IntKind.i64 (IntKind.i64.wrap (a - (1 : Int)))), AV.v (Value.bool true)])) (br (lnT k a c l == (2 : Int)) (n1 = n1 ∧ n1 = n1 ∧ br (decide (f < a)) (n1 = n1 ∧ n1 = n1 ∧ n1 = n1 ∧ br (decide (IntKind.i64.wrap (a + c) > mostF k)) (n1 = n1 ∧ R (AV.tup [AV.v (Value.int IntKind.i64 (lnN k a c f)), AV.v (Value.int IntKind.i64 (IntKind.i64.wrap (a - (1 : Int)))), AV.v (Value.bool true)])) (R (AV.tup [AV.v (Value.int IntKind.i64 (lnN k a c f)), AV.v (Value.int IntKind.i64 (mostF k)), AV.v (Value.bool true)]))) (R (AV.tup [AV.v (Value.int IntKind.i64 (lnN k a c f)), AV.v (Value.int IntKind.i64 (mostF k)), AV.v (Value.bool true)]))) (R (AV.tup [AV.v (Value.int IntKind.i64 (lnN k a c f)), AV.v (Value.int IntKind.i64 (lnN k a c l)), AV.v (Value.bool true)]))))))) : LC Try.prog 89 [.agg [.v (.int .i64 k), .v (.int .i64 a), .v (.int .i64 c)], .v (.int .i64 f), .v (.int .i64 l)] [] (fun z_ _ => R z_) :=
  lc_of_exec (tbl := mt14) tab_ok mt14_ok mixed noinv 2 _ Try.func89 rfl Try.ntmps89 (by decide) (by kernel_rfl) (Nat.le_of_ble_eq_true rfl) (@Eq.mpr (execN tab mt14 noinv 2 Try.f89.ntmps [] none 0 (body Try.f89) (argsT [.agg [.v (.int .i64 k), .v (.int .i64 a), .v (.int .i64 c)], .v (.int .i64 f), .v (.int .i64 l)] 0) [] (post Try.f89 tab (retK (fun z_ _ => R z_)))) _ (by kernel_rfl) h)
set_option maxRecDepth 100000 in
theorem ends_lc (k a c f l : Int) : LC Try.prog 89 [.agg [.v (.int .i64 k), .v (.int .i64 a), .v (.int .i64 c)], .v (.int .i64 f), .v (.int .i64 l)] [] (fun z_ _ => z_ = .tup [.v (.int .i64 (enA k a c f l)), .v (.int .i64 (enB k a c f l)), .v (.bool (enOk k a c f l))]) :=
  ends_vc k a c f l (by
    intros
    simp only [true_and, and_true, br_iff, AV.v.injEq, AV.tup.injEq, AV.agg.injEq, List.cons.injEq, Value.bool.injEq, Value.int.injEq, decide_eq_true_eq, decide_eq_false_iff_not, ifB, enA, enB, enOk]
    repeat' (first | (refine ⟨?_, ?_⟩) | intro _)
    all_goals (first | trivial | omega | (simp_all; done) | (simp_all; omega) | (rw [Bool.eq_iff_iff]; simp (config := {failIfUnchanged := false}) only [decide_eq_true_eq, Bool.false_eq_true, false_iff, iff_false, true_iff, iff_true, Bool.and_eq_true, Bool.or_eq_true]; omega) | (simp_all; rw [Bool.eq_iff_iff]; simp <;> omega)))
def endsH : List AV → Option AV
  | [.agg [.v (.int .i64 k), .v (.int .i64 a), .v (.int .i64 c)], .v (.int .i64 f), .v (.int .i64 l)] => some (.tup [.v (.int .i64 (enA k a c f l)), .v (.int .i64 (enB k a c f l)), .v (.bool (enOk k a c f l))])
  | _ => none
theorem ends_ok : POk Try.prog 89 endsH := POk.of_lc (enters_of (c := body Try.f89) Try.func89 rfl (by kernel_rfl)) (by
  intro args v h
  unfold endsH at h
  split at h
  · cases h; exact ends_lc _ _ _ _ _
  · cases h)
def mt15 : Tbl := (89, .pure endsH) :: mt14
theorem mt15_ok : TblOk Try.prog mt15 := ⟨ends_ok, mt14_ok⟩
def rrOk (k a c t l b r : Int) : Bool := goodR k a c t l b r && enOk k a c (spA k t l) (spB k b r)
def rrT (k a c t l b r : Int) : Int := ifB (rrOk k a c t l b r) (if rowsF k then enA k a c t b else t) 0
def rrL (k a c t l b r : Int) : Int := ifB (rrOk k a c t l b r) (if rowsF k then l else enA k a c l r) 0
def rrD (k a c t l b r : Int) : Int := ifB (rrOk k a c t l b r) (if rowsF k then enB k a c t b else b) 0
def rrR (k a c t l b r : Int) : Int := ifB (rrOk k a c t l b r) (if rowsF k then r else enB k a c l r) 0
set_option maxRecDepth 100000 in
theorem rRect_vc (k a c t l b r : Int) {R : AV → Prop} (h : (∀ (n1 n2 n3 : Nat), n1 = n1 ∧ br (!rightF k a c) (n3 = n3 ∧ n3 = n3 ∧ R (AV.tup [AV.agg [AV.v (Value.int IntKind.i64 (0 : Int)), AV.v (Value.int IntKind.i64 (0 : Int)), AV.v (Value.int IntKind.i64 (0 : Int)), AV.v (Value.int IntKind.i64 (0 : Int))], AV.v (Value.bool false), AV.v (Value.int IntKind.i64 (2 : Int))])) (n2 = n2 ∧ br (!okR t l b r) (n3 = n3 ∧ n3 = n3 ∧ R (AV.tup [AV.agg [AV.v (Value.int IntKind.i64 (0 : Int)), AV.v (Value.int IntKind.i64 (0 : Int)), AV.v (Value.int IntKind.i64 (0 : Int)), AV.v (Value.int IntKind.i64 (0 : Int))], AV.v (Value.bool false), AV.v (Value.int IntKind.i64 (2 : Int))])) (n1 = n1 ∧ br (rowsF k) (n1 = n1 ∧ n2 = n2 ∧ n2 = n2 ∧ n2 = n2 ∧ n2 = n2 ∧ br (!enOk k a c t b) (n3 = n3 ∧ n3 = n3 ∧ R (AV.tup [AV.agg [AV.v (Value.int IntKind.i64 (0 : Int)), AV.v (Value.int IntKind.i64 (0 : Int)), AV.v (Value.int IntKind.i64 (0 : Int)), AV.v (Value.int IntKind.i64 (0 : Int))], AV.v (Value.bool false), AV.v (Value.int IntKind.i64 (0 : Int))])) (n2 = n2 ∧ n3 = n3 ∧ n3 = n3 ∧ R (AV.tup [AV.agg [AV.v (Value.int IntKind.i64 (enA k a c t b)), AV.v (Value.int IntKind.i64 l), AV.v (Value.int IntKind.i64 (enB k a c t b)), AV.v (Value.int IntKind.i64 r)], AV.v (Value.bool true), AV.v (Value.int IntKind.i64 (0 : Int))]))) (n1 = n1 ∧ n2 = n2 ∧ n2 = n2 ∧ n2 = n2 ∧ n2 = n2 ∧ br (!enOk k a c l r) (n3 = n3 ∧ n3 = n3 ∧ R (AV.tup [AV.agg [AV.v (Value.int IntKind.i64 (0 : Int)), AV.v (Value.int IntKind.i64 (0 : Int)), AV.v (Value.int IntKind.i64 (0 : Int)), AV.v (Value.int IntKind.i64 (0 : Int))], AV.v (Value.bool false), AV.v (Value.int IntKind.i64 (0 : Int))])) (n2 = n2 ∧ n3 = n3 ∧ n3 = n3 ∧ R (AV.tup [AV.agg [AV.v (Value.int IntKind.i64 t), AV.v (Value.int IntKind.i64 (enA k a c l r)), AV.v (Value.int IntKind.i64 b), AV.v (Value.int IntKind.i64 (enB k a c l r))], AV.v (Value.bool true), AV.v (Value.int IntKind.i64 (0 : Int))]))))))) : LC Try.prog 65 [.agg [.v (.int .i64 k), .v (.int .i64 a), .v (.int .i64 c)], .agg [.v (.int .i64 t), .v (.int .i64 l), .v (.int .i64 b), .v (.int .i64 r)]] [] (fun z_ _ => R z_) :=
  lc_of_exec (tbl := mt15) tab_ok mt15_ok mixed noinv 2 _ Try.func65 rfl Try.ntmps65 (by decide) (by kernel_rfl) (Nat.le_of_ble_eq_true rfl) (@Eq.mpr (execN tab mt15 noinv 2 Try.f65.ntmps [] none 0 (body Try.f65) (argsT [.agg [.v (.int .i64 k), .v (.int .i64 a), .v (.int .i64 c)], .agg [.v (.int .i64 t), .v (.int .i64 l), .v (.int .i64 b), .v (.int .i64 r)]] 0) [] (post Try.f65 tab (retK (fun z_ _ => R z_)))) _ (by kernel_rfl) h)
set_option maxRecDepth 100000 in
theorem rRect_lc (k a c t l b r : Int) : LC Try.prog 65 [.agg [.v (.int .i64 k), .v (.int .i64 a), .v (.int .i64 c)], .agg [.v (.int .i64 t), .v (.int .i64 l), .v (.int .i64 b), .v (.int .i64 r)]] [] (fun z_ _ => z_ = .tup [.agg [.v (.int .i64 (rrT k a c t l b r)), .v (.int .i64 (rrL k a c t l b r)), .v (.int .i64 (rrD k a c t l b r)), .v (.int .i64 (rrR k a c t l b r))], .v (.bool (rrOk k a c t l b r)), .v (.int .i64 (ifB (goodR k a c t l b r) 0 2))]) :=
  rRect_vc k a c t l b r (by
    intros
    simp only [true_and, and_true, br_iff, AV.v.injEq, AV.tup.injEq, AV.agg.injEq, List.cons.injEq, Value.bool.injEq, Value.int.injEq, decide_eq_true_eq, decide_eq_false_iff_not, ifB, rrT, rrL, rrD, rrR, rrOk, spA, spB, goodR]
    repeat' (first | (refine ⟨?_, ?_⟩) | intro _)
    all_goals (first | trivial | omega | (simp_all; done) | (simp_all; omega) | (rw [Bool.eq_iff_iff]; simp (config := {failIfUnchanged := false}) only [decide_eq_true_eq, Bool.false_eq_true, false_iff, iff_false, true_iff, iff_true, Bool.and_eq_true, Bool.or_eq_true]; omega) | (simp_all; rw [Bool.eq_iff_iff]; simp <;> omega)))
def rRectH : List AV → Option AV
  | [.agg [.v (.int .i64 k), .v (.int .i64 a), .v (.int .i64 c)], .agg [.v (.int .i64 t), .v (.int .i64 l), .v (.int .i64 b), .v (.int .i64 r)]] => some (.tup [.agg [.v (.int .i64 (rrT k a c t l b r)), .v (.int .i64 (rrL k a c t l b r)), .v (.int .i64 (rrD k a c t l b r)), .v (.int .i64 (rrR k a c t l b r))], .v (.bool (rrOk k a c t l b r)), .v (.int .i64 (ifB (goodR k a c t l b r) 0 2))])
  | _ => none
theorem rRect_ok : POk Try.prog 65 rRectH := POk.of_lc (enters_of (c := body Try.f65) Try.func65 rfl (by kernel_rfl)) (by
  intro args v h
  unfold rRectH at h
  split at h
  · cases h; exact rRect_lc _ _ _ _ _ _ _
  · cases h)
def mt16 : Tbl := (65, .pure rRectH) :: mt15
theorem mt16_ok : TblOk Try.prog mt16 := ⟨rRect_ok, mt15_ok⟩
end Go.Proofs.Ytjnehpljhnlbfaa
