/- Place: the laws of PlaceLeast, PlaceMeets, PlaceRects. -/
import Derived.Test.YtilejaehbgljbaaDoorB
namespace Go.Proofs.YtilejaehbgljbaaDoor
open Go Go.Eng
set_option linter.unusedVariables false
set_option linter.unusedSimpArgs false

def tb5 : Tbl := (14, .pure livesH) :: tb4

theorem tb5_ok : TblOk Tryd.prog tb5 := ⟨lives_ok, tb4_ok⟩

theorem ifB_02 (c : Bool) : (ifB c 0 2 != 0) = !c := by cases c <;> rfl
theorem ifB_00 (c : Bool) : (ifB c 0 2 == 0) = c := by cases c <;> rfl

theorem okP_b {r q : Int} (h : okP r q = true) : 1 ≤ r ∧ r ≤ 1048576 ∧ 1 ≤ q ∧ q ≤ 16384 := by simpa [okP] using h


set_option maxRecDepth 100000 in
theorem least_vc (a b c d : Int) {R : AV → Prop} (h : (∀ (n1 n2 : Nat), n1 = n1 ∧ n2 = n2 ∧ ∀ (n3 : Nat), n3 = n3 ∧ br (ifB (okP a b && okP c d) (0 : Int) (2 : Int) != (0 : Int)) (n3 = n3 ∧ br (ifB (okP a b && okP c d) (min a c) (0 : Int) == (0 : Int) && (ifB (okP a b && okP c d) (min b d) (0 : Int) == (0 : Int) && (ifB (okP a b && okP c d) (max a c) (0 : Int) == (0 : Int) && (ifB (okP a b && okP c d) (max b d) (0 : Int) == (0 : Int) && true)))) (br (ifB (okP a b && okP c d) (0 : Int) (2 : Int) == (2 : Int)) (R (AV.v (Value.bool true))) (R (AV.v (Value.bool false)))) (R (AV.v (Value.bool false)))) (n2 = n2 ∧ n1 = n1 ∧ ∀ (n4 : Nat), n4 = n4 ∧ n3 = n3 ∧ n1 = n1 ∧ n2 = n2 ∧ n1 = n1 ∧ n2 = n2 ∧ n1 = n1 ∧ n2 = n2 ∧ n1 = n1 ∧ n2 = n2 ∧ br (ifB (okP c d && okP a b) (0 : Int) (2 : Int) == (0 : Int)) (n3 = n3 ∧ n4 = n4 ∧ br (ifB (okP a b && okP c d) (min a c) (0 : Int) == ifB (okP c d && okP a b) (min c a) (0 : Int) && (ifB (okP a b && okP c d) (min b d) (0 : Int) == ifB (okP c d && okP a b) (min d b) (0 : Int) && (ifB (okP a b && okP c d) (max a c) (0 : Int) == ifB (okP c d && okP a b) (max c a) (0 : Int) && (ifB (okP a b && okP c d) (max b d) (0 : Int) == ifB (okP c d && okP a b) (max d b) (0 : Int) && true)))) (n3 = n3 ∧ n1 = n1 ∧ br (inF (ifB (okP a b && okP c d) (min a c) (0 : Int)) (ifB (okP a b && okP c d) (min b d) (0 : Int)) (ifB (okP a b && okP c d) (max a c) (0 : Int)) (ifB (okP a b && okP c d) (max b d) (0 : Int)) a b) (n3 = n3 ∧ n2 = n2 ∧ br (inF (ifB (okP a b && okP c d) (min a c) (0 : Int)) (ifB (okP a b && okP c d) (min b d) (0 : Int)) (ifB (okP a b && okP c d) (max a c) (0 : Int)) (ifB (okP a b && okP c d) (max b d) (0 : Int)) c d) (br (areaF (ifB (okP a b && okP c d) (min a c) (0 : Int)) (ifB (okP a b && okP c d) (min b d) (0 : Int)) (ifB (okP a b && okP c d) (max a c) (0 : Int)) (ifB (okP a b && okP c d) (max b d) (0 : Int)) == IntKind.i64.wrap (IntKind.i64.wrap (IntKind.i64.wrap ((if c > a then c else a) - if c < a then c else a) + (1 : Int)) * IntKind.i64.wrap (IntKind.i64.wrap ((if d > b then d else b) - if d < b then d else b) + (1 : Int)))) (br (ifB (okR (ifB (okP a b && okP c d) (min a c) (0 : Int)) (ifB (okP a b && okP c d) (min b d) (0 : Int)) (ifB (okP a b && okP c d) (max a c) (0 : Int)) (ifB (okP a b && okP c d) (max b d) (0 : Int))) (0 : Int) (2 : Int) == (0 : Int)) (R (AV.v (Value.bool true))) (R (AV.v (Value.bool false)))) (R (AV.v (Value.bool false)))) (R (AV.v (Value.bool false)))) (R (AV.v (Value.bool false)))) (R (AV.v (Value.bool false)))) (R (AV.v (Value.bool false)))))) : LC Tryd.prog 7 [.agg [.v (.int .i64 a), .v (.int .i64 b)], .agg [.v (.int .i64 c), .v (.int .i64 d)]] [] (fun z_ _ => R z_) :=
  lc_of_exec (tbl := tb5) tab_ok tb5_ok mixed noinv 2 _ Tryd.func7 rfl Tryd.ntmps7 (by decide) (by kernel_rfl) (Nat.le_of_ble_eq_true rfl) (@Eq.mpr (execN tab tb5 noinv 2 Tryd.f7.ntmps [] none 0 (body Tryd.f7) (argsT [.agg [.v (.int .i64 a), .v (.int .i64 b)], .agg [.v (.int .i64 c), .v (.int .i64 d)]] 0) [] (post Tryd.f7 tab (retK (fun z_ _ => R z_)))) _ (by kernel_rfl) h)


theorem least_law (a b c d : Int) : LC Tryd.prog 7 [.agg [.v (.int .i64 a), .v (.int .i64 b)], .agg [.v (.int .i64 c), .v (.int .i64 d)]] [] (fun z _ => z = .v (.bool true)) :=
  least_vc a b c d (by
    simp only [ifB_02, ifB_00]
    cases h1 : okP a b
    · simp [br_iff, ifB]
    · cases h2 : okP c d
      · simp [br_iff, ifB]
      · have b1 := okP_b h1
        have b2 := okP_b h2
        have e1 : (if c > a then c else a) = max a c := by omega
        have e2 : (if c < a then c else a) = min a c := by omega
        have e3 : (if d > b then d else b) = max b d := by omega
        have e4 : (if d < b then d else b) = min b d := by omega
        have hR : okR (min a c) (min b d) (max a c) (max b d) = true := by rw [okR_iff]; omega
        have w := area_w hR
        have i1 : inF (min a c) (min b d) (max a c) (max b d) a b = true := by simp only [inF, hR, Bool.true_and, decide_eq_true_eq]; omega
        have i2 : inF (min a c) (min b d) (max a c) (max b d) c d = true := by simp only [inF, hR, Bool.true_and, decide_eq_true_eq]; omega
        have m1 : min c a = min a c := by omega
        have m2 : min d b = min b d := by omega
        have m3 : max c a = max a c := by omega
        have m4 : max d b = max b d := by omega
        simp only [e1, e2, e3, e4, w]
        simp [br_iff, ifB, areaF, hR, i1, i2, m1, m2, m3, m4])


set_option maxRecDepth 100000 in
theorem rects_vc (t l b r t' l' b' r' y x v u : Int) {R : AV → Prop} (h : (∀ (n1 n2 n3 n4 : Nat), n1 = n1 ∧ n1 = n1 ∧ n1 = n1 ∧ n2 = n2 ∧ ∀ (n5 : Nat), n5 = n5 ∧ n1 = n1 ∧ n2 = n2 ∧ ∀ (n6 : Nat), n6 = n6 ∧ n3 = n3 ∧ n4 = n4 ∧ ∀ (n7 : Nat), n7 = n7 ∧ n3 = n3 ∧ n4 = n4 ∧ ∀ (n8 : Nat), n8 = n8 ∧ n1 = n1 ∧ n1 = n1 ∧ br (ifB (okR t l b r) (0 : Int) (2 : Int) == ifB (okR t l b r) (0 : Int) (2 : Int)) (br (areaF t l b r == areaF t l b r) (br (ifB (okR t l b r) (0 : Int) (2 : Int) == ifB (okR t l b r) (0 : Int) (2 : Int)) (n5 = n5 ∧ n6 = n6 ∧ br (ifB (mt t l b r t' l' b' r') (max t t') (0 : Int) == ifB (mt t l b r t' l' b' r') (max t t') (0 : Int) && (ifB (mt t l b r t' l' b' r') (max l l') (0 : Int) == ifB (mt t l b r t' l' b' r') (max l l') (0 : Int) && (ifB (mt t l b r t' l' b' r') (min b b') (0 : Int) == ifB (mt t l b r t' l' b' r') (min b b') (0 : Int) && (ifB (mt t l b r t' l' b' r') (min r r') (0 : Int) == ifB (mt t l b r t' l' b' r') (min r r') (0 : Int) && true)))) (br (mt t l b r t' l' b' r' == mt t l b r t' l' b' r') (n7 = n7 ∧ n8 = n8 ∧ br (ifB (okP y x && okP v u) (min y v) (0 : Int) == ifB (okP y x && okP v u) (min y v) (0 : Int) && (ifB (okP y x && okP v u) (min x u) (0 : Int) == ifB (okP y x && okP v u) (min x u) (0 : Int) && (ifB (okP y x && okP v u) (max y v) (0 : Int) == ifB (okP y x && okP v u) (max y v) (0 : Int) && (ifB (okP y x && okP v u) (max x u) (0 : Int) == ifB (okP y x && okP v u) (max x u) (0 : Int) && true)))) (br (ifB (okP y x && okP v u) (0 : Int) (2 : Int) == ifB (okP y x && okP v u) (0 : Int) (2 : Int)) (n1 = n1 ∧ n3 = n3 ∧ n1 = n1 ∧ n3 = n3 ∧ br (inF t l b r y x == inF t l b r y x) (R (AV.v (Value.bool true))) (R (AV.v (Value.bool false)))) (R (AV.v (Value.bool false)))) (R (AV.v (Value.bool false)))) (R (AV.v (Value.bool false)))) (R (AV.v (Value.bool false)))) (R (AV.v (Value.bool false)))) (R (AV.v (Value.bool false)))) (R (AV.v (Value.bool false))))) : LC Tryd.prog 9 [.agg [.v (.int .i64 t), .v (.int .i64 l), .v (.int .i64 b), .v (.int .i64 r)], .agg [.v (.int .i64 t'), .v (.int .i64 l'), .v (.int .i64 b'), .v (.int .i64 r')], .agg [.v (.int .i64 y), .v (.int .i64 x)], .agg [.v (.int .i64 v), .v (.int .i64 u)]] [] (fun z_ _ => R z_) :=
  lc_of_exec (tbl := tb5) tab_ok tb5_ok mixed noinv 2 _ Tryd.func9 rfl Tryd.ntmps9 (by decide) (by kernel_rfl) (Nat.le_of_ble_eq_true rfl) (@Eq.mpr (execN tab tb5 noinv 2 Tryd.f9.ntmps [] none 0 (body Tryd.f9) (argsT [.agg [.v (.int .i64 t), .v (.int .i64 l), .v (.int .i64 b), .v (.int .i64 r)], .agg [.v (.int .i64 t'), .v (.int .i64 l'), .v (.int .i64 b'), .v (.int .i64 r')], .agg [.v (.int .i64 y), .v (.int .i64 x)], .agg [.v (.int .i64 v), .v (.int .i64 u)]] 0) [] (post Tryd.f9 tab (retK (fun z_ _ => R z_)))) _ (by kernel_rfl) h)


theorem rects_law (t l b r t' l' b' r' y x v u : Int) : LC Tryd.prog 9 [.agg [.v (.int .i64 t), .v (.int .i64 l), .v (.int .i64 b), .v (.int .i64 r)], .agg [.v (.int .i64 t'), .v (.int .i64 l'), .v (.int .i64 b'), .v (.int .i64 r')], .agg [.v (.int .i64 y), .v (.int .i64 x)], .agg [.v (.int .i64 v), .v (.int .i64 u)]] [] (fun z _ => z = .v (.bool true)) :=
  rects_vc t l b r t' l' b' r' y x v u (by simp [br_iff])


set_option maxRecDepth 100000 in
theorem meets_vc (t l b r t' l' b' r' y x : Int) {R : AV → Prop} (h : (∀ (n1 n2 n3 : Nat), n1 = n1 ∧ n2 = n2 ∧ ∀ (n4 : Nat), n4 = n4 ∧ n2 = n2 ∧ n1 = n1 ∧ ∀ (n5 : Nat), n5 = n5 ∧ n1 = n1 ∧ n3 = n3 ∧ br (inF t l b r y x) (n2 = n2 ∧ n3 = n3 ∧ n4 = n4 ∧ n5 = n5 ∧ br (!(ifB (mt t l b r t' l' b' r') (max t t') (0 : Int) == ifB (mt t' l' b' r' t l b r) (max t' t) (0 : Int) && (ifB (mt t l b r t' l' b' r') (max l l') (0 : Int) == ifB (mt t' l' b' r' t l b r) (max l' l) (0 : Int) && (ifB (mt t l b r t' l' b' r') (min b b') (0 : Int) == ifB (mt t' l' b' r' t l b r) (min b' b) (0 : Int) && (ifB (mt t l b r t' l' b' r') (min r r') (0 : Int) == ifB (mt t' l' b' r' t l b r) (min r' r) (0 : Int) && true))))) (R (AV.v (Value.bool false))) (br (!mt t l b r t' l' b' r' == mt t' l' b' r' t l b r) (R (AV.v (Value.bool false))) (br (inF t' l' b' r' y x) (br (!mt t l b r t' l' b' r') (R (AV.v (Value.bool false))) (br (!mt t l b r t' l' b' r') (n1 = n1 ∧ br (ifB (okR t l b r) (0 : Int) (2 : Int) != (0 : Int)) (R (AV.v (Value.bool true))) (n2 = n2 ∧ br (ifB (okR t' l' b' r') (0 : Int) (2 : Int) != (0 : Int)) (R (AV.v (Value.bool true))) (n4 = n4 ∧ br (mt t l b r t' l' b' r' == (ifB (okR (ifB (mt t l b r t' l' b' r') (max t t') (0 : Int)) (ifB (mt t l b r t' l' b' r') (max l l') (0 : Int)) (ifB (mt t l b r t' l' b' r') (min b b') (0 : Int)) (ifB (mt t l b r t' l' b' r') (min r r') (0 : Int))) (0 : Int) (2 : Int) == (0 : Int))) (R (AV.v (Value.bool true))) (R (AV.v (Value.bool false)))))) (n4 = n4 ∧ n3 = n3 ∧ br (inF (ifB (mt t l b r t' l' b' r') (max t t') (0 : Int)) (ifB (mt t l b r t' l' b' r') (max l l') (0 : Int)) (ifB (mt t l b r t' l' b' r') (min b b') (0 : Int)) (ifB (mt t l b r t' l' b' r') (min r r') (0 : Int)) y x == inF t' l' b' r' y x) (n1 = n1 ∧ br (ifB (okR t l b r) (0 : Int) (2 : Int) != (0 : Int)) (R (AV.v (Value.bool true))) (n2 = n2 ∧ br (ifB (okR t' l' b' r') (0 : Int) (2 : Int) != (0 : Int)) (R (AV.v (Value.bool true))) (n4 = n4 ∧ br (mt t l b r t' l' b' r' == (ifB (okR (ifB (mt t l b r t' l' b' r') (max t t') (0 : Int)) (ifB (mt t l b r t' l' b' r') (max l l') (0 : Int)) (ifB (mt t l b r t' l' b' r') (min b b') (0 : Int)) (ifB (mt t l b r t' l' b' r') (min r r') (0 : Int))) (0 : Int) (2 : Int) == (0 : Int))) (R (AV.v (Value.bool true))) (R (AV.v (Value.bool false)))))) (R (AV.v (Value.bool false)))))) (br (!mt t l b r t' l' b' r') (n1 = n1 ∧ br (ifB (okR t l b r) (0 : Int) (2 : Int) != (0 : Int)) (R (AV.v (Value.bool true))) (n2 = n2 ∧ br (ifB (okR t' l' b' r') (0 : Int) (2 : Int) != (0 : Int)) (R (AV.v (Value.bool true))) (n4 = n4 ∧ br (mt t l b r t' l' b' r' == (ifB (okR (ifB (mt t l b r t' l' b' r') (max t t') (0 : Int)) (ifB (mt t l b r t' l' b' r') (max l l') (0 : Int)) (ifB (mt t l b r t' l' b' r') (min b b') (0 : Int)) (ifB (mt t l b r t' l' b' r') (min r r') (0 : Int))) (0 : Int) (2 : Int) == (0 : Int))) (R (AV.v (Value.bool true))) (R (AV.v (Value.bool false)))))) (n4 = n4 ∧ n3 = n3 ∧ br (inF (ifB (mt t l b r t' l' b' r') (max t t') (0 : Int)) (ifB (mt t l b r t' l' b' r') (max l l') (0 : Int)) (ifB (mt t l b r t' l' b' r') (min b b') (0 : Int)) (ifB (mt t l b r t' l' b' r') (min r r') (0 : Int)) y x == inF t' l' b' r' y x) (n1 = n1 ∧ br (ifB (okR t l b r) (0 : Int) (2 : Int) != (0 : Int)) (R (AV.v (Value.bool true))) (n2 = n2 ∧ br (ifB (okR t' l' b' r') (0 : Int) (2 : Int) != (0 : Int)) (R (AV.v (Value.bool true))) (n4 = n4 ∧ br (mt t l b r t' l' b' r' == (ifB (okR (ifB (mt t l b r t' l' b' r') (max t t') (0 : Int)) (ifB (mt t l b r t' l' b' r') (max l l') (0 : Int)) (ifB (mt t l b r t' l' b' r') (min b b') (0 : Int)) (ifB (mt t l b r t' l' b' r') (min r r') (0 : Int))) (0 : Int) (2 : Int) == (0 : Int))) (R (AV.v (Value.bool true))) (R (AV.v (Value.bool false)))))) (R (AV.v (Value.bool false)))))))) (n4 = n4 ∧ n5 = n5 ∧ br (!(ifB (mt t l b r t' l' b' r') (max t t') (0 : Int) == ifB (mt t' l' b' r' t l b r) (max t' t) (0 : Int) && (ifB (mt t l b r t' l' b' r') (max l l') (0 : Int) == ifB (mt t' l' b' r' t l b r) (max l' l) (0 : Int) && (ifB (mt t l b r t' l' b' r') (min b b') (0 : Int) == ifB (mt t' l' b' r' t l b r) (min b' b) (0 : Int) && (ifB (mt t l b r t' l' b' r') (min r r') (0 : Int) == ifB (mt t' l' b' r' t l b r) (min r' r) (0 : Int) && true))))) (R (AV.v (Value.bool false))) (br (!mt t l b r t' l' b' r' == mt t' l' b' r' t l b r) (R (AV.v (Value.bool false))) (br (!mt t l b r t' l' b' r') (n1 = n1 ∧ br (ifB (okR t l b r) (0 : Int) (2 : Int) != (0 : Int)) (R (AV.v (Value.bool true))) (n2 = n2 ∧ br (ifB (okR t' l' b' r') (0 : Int) (2 : Int) != (0 : Int)) (R (AV.v (Value.bool true))) (n4 = n4 ∧ br (mt t l b r t' l' b' r' == (ifB (okR (ifB (mt t l b r t' l' b' r') (max t t') (0 : Int)) (ifB (mt t l b r t' l' b' r') (max l l') (0 : Int)) (ifB (mt t l b r t' l' b' r') (min b b') (0 : Int)) (ifB (mt t l b r t' l' b' r') (min r r') (0 : Int))) (0 : Int) (2 : Int) == (0 : Int))) (R (AV.v (Value.bool true))) (R (AV.v (Value.bool false)))))) (n4 = n4 ∧ n3 = n3 ∧ br (inF (ifB (mt t l b r t' l' b' r') (max t t') (0 : Int)) (ifB (mt t l b r t' l' b' r') (max l l') (0 : Int)) (ifB (mt t l b r t' l' b' r') (min b b') (0 : Int)) (ifB (mt t l b r t' l' b' r') (min r r') (0 : Int)) y x == false) (n1 = n1 ∧ br (ifB (okR t l b r) (0 : Int) (2 : Int) != (0 : Int)) (R (AV.v (Value.bool true))) (n2 = n2 ∧ br (ifB (okR t' l' b' r') (0 : Int) (2 : Int) != (0 : Int)) (R (AV.v (Value.bool true))) (n4 = n4 ∧ br (mt t l b r t' l' b' r' == (ifB (okR (ifB (mt t l b r t' l' b' r') (max t t') (0 : Int)) (ifB (mt t l b r t' l' b' r') (max l l') (0 : Int)) (ifB (mt t l b r t' l' b' r') (min b b') (0 : Int)) (ifB (mt t l b r t' l' b' r') (min r r') (0 : Int))) (0 : Int) (2 : Int) == (0 : Int))) (R (AV.v (Value.bool true))) (R (AV.v (Value.bool false)))))) (R (AV.v (Value.bool false))))))))) : LC Tryd.prog 8 [.agg [.v (.int .i64 t), .v (.int .i64 l), .v (.int .i64 b), .v (.int .i64 r)], .agg [.v (.int .i64 t'), .v (.int .i64 l'), .v (.int .i64 b'), .v (.int .i64 r')], .agg [.v (.int .i64 y), .v (.int .i64 x)]] [] (fun z_ _ => R z_) :=
  lc_of_exec (tbl := tb5) tab_ok tb5_ok mixed noinv 2 _ Tryd.func8 rfl Tryd.ntmps8 (by decide) (by kernel_rfl) (Nat.le_of_ble_eq_true rfl) (@Eq.mpr (execN tab tb5 noinv 2 Tryd.f8.ntmps [] none 0 (body Tryd.f8) (argsT [.agg [.v (.int .i64 t), .v (.int .i64 l), .v (.int .i64 b), .v (.int .i64 r)], .agg [.v (.int .i64 t'), .v (.int .i64 l'), .v (.int .i64 b'), .v (.int .i64 r')], .agg [.v (.int .i64 y), .v (.int .i64 x)]] 0) [] (post Tryd.f8 tab (retK (fun z_ _ => R z_)))) _ (by kernel_rfl) h)


theorem mt_comm (t l b r t' l' b' r' : Int) : mt t' l' b' r' t l b r = mt t l b r t' l' b' r' := by
  unfold mt
  rw [Int.max_comm t' t, Int.max_comm l' l, Int.min_comm b' b, Int.min_comm r' r, Bool.and_comm (okR t' l' b' r')]

theorem mt_in {t l b r t' l' b' r' y x : Int} (h : mt t l b r t' l' b' r' = true) : inF (max t t') (max l l') (min b b') (min r r') y x = (inF t l b r y x && inF t' l' b' r' y x) := by
  have h' := h
  simp only [mt, Bool.and_eq_true] at h'
  simp only [inF, h'.1.1, h'.1.2, h'.2, Bool.true_and]
  rw [Bool.eq_iff_iff]
  simp only [Bool.and_eq_true, decide_eq_true_eq]
  omega

theorem in_mt {t l b r t' l' b' r' y x : Int} (h1 : inF t l b r y x = true) (h2 : inF t' l' b' r' y x = true) : mt t l b r t' l' b' r' = true := by
  simp only [inF, Bool.and_eq_true, decide_eq_true_eq] at h1 h2
  have b1 := okR_b h1.1
  have b2 := okR_b h2.1
  simp only [mt, h1.1, h2.1, Bool.true_and]
  rw [okR_iff]
  omega

theorem meets_law (t l b r t' l' b' r' y x : Int) : LC Tryd.prog 8 [.agg [.v (.int .i64 t), .v (.int .i64 l), .v (.int .i64 b), .v (.int .i64 r)], .agg [.v (.int .i64 t'), .v (.int .i64 l'), .v (.int .i64 b'), .v (.int .i64 r')], .agg [.v (.int .i64 y), .v (.int .i64 x)]] [] (fun z _ => z = .v (.bool true)) :=
  meets_vc t l b r t' l' b' r' y x (by
    simp only [ifB_02, ifB_00, mt_comm t l b r t' l' b' r', Int.max_comm t' t, Int.max_comm l' l, Int.min_comm b' b, Int.min_comm r' r]
    cases hm : mt t l b r t' l' b' r'
    · have z : okR 0 0 0 0 = false := rfl
      cases h1 : inF t l b r y x <;> cases h2 : inF t' l' b' r' y x
      · simp [br_iff, ifB, z]
      · simp [br_iff, ifB, z]
      · simp [br_iff, ifB, z]
      · have := in_mt h1 h2
        rw [hm] at this
        cases this
    · have hi := mt_in (y := y) (x := x) hm
      have hm' := hm
      simp only [mt, Bool.and_eq_true] at hm'
      cases h1 : inF t l b r y x <;> cases h2 : inF t' l' b' r' y x <;> rw [h1, h2] at hi <;> simp [br_iff, ifB, hi, hm'])
end Go.Proofs.YtilejaehbgljbaaDoor

