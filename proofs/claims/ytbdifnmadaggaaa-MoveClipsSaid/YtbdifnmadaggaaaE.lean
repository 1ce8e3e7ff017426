/- Move: the laws of MoveSpots, MoveRects, MoveBack, MoveOrder. -/
import Derived.Test.YtbdifnmadaggaaaD
namespace Go.Proofs.Ytbdifnmadaggaaa
open Go Go.Eng
set_option linter.unusedVariables false
set_option linter.unusedSimpArgs false

theorem most_b (k : Int) : 16384 ≤ mostF k ∧ mostF k ≤ 1048576 := by unfold mostF; split <;> omega

theorem okP_b {r q : Int} (h : okP r q = true) : 1 ≤ r ∧ r ≤ 1048576 ∧ 1 ≤ q ∧ q ≤ 16384 := by simpa [okP] using h

theorem good_b {k a c r q : Int} (h : good k a c r q = true) : okP r q = true ∧ rightF k a c = true := by simpa [good] using h

theorem spL_b {k r q : Int} (h : okP r q = true) : 1 ≤ spL k r q ∧ spL k r q ≤ mostF k := by
  have := okP_b h
  unfold spL mostF
  split <;> omega

theorem stepT_eq {k a c n : Int} (h : rightF k a c = true) (h1 : 1 ≤ n) (h2 : n ≤ 1048576) : stepT k a c n = lnT k a c n := by
  have hb := rightF_b h
  unfold stepT lnT
  rw [w64 (x := n + c) (by omega), w64 (x := n - c) (by omega), w64 (x := a + c) (by omega)]
  repeat' split
  all_goals first | rfl | omega

theorem stay_eq (k a c r q : Int) : spStay k a c r q = rsStay k a c r q := by
  unfold spStay rsStay
  cases h : good k a c r q
  · rfl
  · obtain ⟨h1, h2⟩ := good_b h
    have := spL_b (k := k) h1
    have := most_b k
    rw [stepT_eq h2 (by omega) (by omega)]

theorem spot_eq (k a c r q : Int) : spR k a c r q = rsR k a c r q ∧ spC k a c r q = rsC k a c r q ∧ spF k a c r q = rsF k a c r q := by
  unfold spR spC spF rsR rsC rsF
  rw [stay_eq]
  refine ⟨?_, ?_, ?_⟩
  · cases hs : rsStay k a c r q
    · rfl
    · simp only [rsStay, Bool.and_eq_true, decide_eq_true_eq] at hs
      simp only [ifB, if_true]
      split
      · rename_i hr
        have e : lnT k a c r = 0 := by simpa [spL, hr] using hs.2
        simp [lnN, ifB, e]
      · rfl
  · cases hs : rsStay k a c r q
    · rfl
    · simp only [rsStay, Bool.and_eq_true, decide_eq_true_eq] at hs
      simp only [ifB, if_true]
      split
      · rfl
      · rename_i hr
        have e : lnT k a c q = 0 := by simpa [spL, hr] using hs.2
        simp [lnN, ifB, e]
  · cases h : good k a c r q
    · rfl
    · obtain ⟨h1, h2⟩ := good_b h
      have := spL_b (k := k) h1
      have := most_b k
      rw [stepT_eq h2 (by omega) (by omega)]


set_option maxRecDepth 100000 in
theorem spots_vc (k a c r q : Int) {R : AV → Prop} (h : (∀ (n1 n2 : Nat), n1 = n1 ∧ n2 = n2 ∧ ∀ (n3 : Nat), n3 = n3 ∧ n1 = n1 ∧ n2 = n2 ∧ ∀ (n4 : Nat), n4 = n4 ∧ n1 = n1 ∧ ∀ (n5 : Nat), n5 = n5 ∧ n1 = n1 ∧ ∀ (n6 : Nat), n6 = n6 ∧ n1 = n1 ∧ n1 = n1 ∧ br (ifB (rightF k a c) 0 2 == ifB (rightF k a c) 0 2) (n3 = n3 ∧ n4 = n4 ∧ br (spR k a c r q == rsR k a c r q && (spC k a c r q == rsC k a c r q && true)) (br (spF k a c r q == rsF k a c r q) (br (ifB (good k a c r q) 0 2 == ifB (good k a c r q) 0 2) (n5 = n5 ∧ n6 = n6 ∧ br (ifB (rightF k a c) (backK k) 0 == ifB (rightF k a c) (backK k) 0 && (ifB (rightF k a c) a 0 == ifB (rightF k a c) a 0 && (ifB (rightF k a c) c 0 == ifB (rightF k a c) c 0 && true))) (br (ifB (rightF k a c) 0 2 == ifB (rightF k a c) 0 2) (R (AV.v (Value.bool true))) (R (AV.v (Value.bool false)))) (R (AV.v (Value.bool false)))) (R (AV.v (Value.bool false)))) (R (AV.v (Value.bool false)))) (R (AV.v (Value.bool false)))) (R (AV.v (Value.bool false))))) : LC Try.prog 3 [.agg [.v (.int .i64 k), .v (.int .i64 a), .v (.int .i64 c)], .agg [.v (.int .i64 r), .v (.int .i64 q)]] [] (fun z_ _ => R z_) :=
  lc_of_exec (tbl := tb14) tab_ok tb14_ok mixed noinv _ Try.func3 rfl Try.ntmps3 (by decide) (by kernel_rfl) (Nat.le_of_ble_eq_true rfl) (Eq.mpr (by kernel_rfl : exec tab tb14 noinv 0 (body Try.f3) (argsT [.agg [.v (.int .i64 k), .v (.int .i64 a), .v (.int .i64 c)], .agg [.v (.int .i64 r), .v (.int .i64 q)]] 0) [] (post Try.f3 tab (fun z_ _ => R z_)) = (∀ (n1 n2 : Nat), n1 = n1 ∧ n2 = n2 ∧ ∀ (n3 : Nat), n3 = n3 ∧ n1 = n1 ∧ n2 = n2 ∧ ∀ (n4 : Nat), n4 = n4 ∧ n1 = n1 ∧ ∀ (n5 : Nat), n5 = n5 ∧ n1 = n1 ∧ ∀ (n6 : Nat), n6 = n6 ∧ n1 = n1 ∧ n1 = n1 ∧ br (ifB (rightF k a c) 0 2 == ifB (rightF k a c) 0 2) (n3 = n3 ∧ n4 = n4 ∧ br (spR k a c r q == rsR k a c r q && (spC k a c r q == rsC k a c r q && true)) (br (spF k a c r q == rsF k a c r q) (br (ifB (good k a c r q) 0 2 == ifB (good k a c r q) 0 2) (n5 = n5 ∧ n6 = n6 ∧ br (ifB (rightF k a c) (backK k) 0 == ifB (rightF k a c) (backK k) 0 && (ifB (rightF k a c) a 0 == ifB (rightF k a c) a 0 && (ifB (rightF k a c) c 0 == ifB (rightF k a c) c 0 && true))) (br (ifB (rightF k a c) 0 2 == ifB (rightF k a c) 0 2) (R (AV.v (Value.bool true))) (R (AV.v (Value.bool false)))) (R (AV.v (Value.bool false)))) (R (AV.v (Value.bool false)))) (R (AV.v (Value.bool false)))) (R (AV.v (Value.bool false)))) (R (AV.v (Value.bool false))))) h)


theorem spots_law (k a c r q : Int) : LC Try.prog 3 [.agg [.v (.int .i64 k), .v (.int .i64 a), .v (.int .i64 c)], .agg [.v (.int .i64 r), .v (.int .i64 q)]] [] (fun z _ => z = .v (.bool true)) :=
  spots_vc k a c r q (by
    obtain ⟨h1, h2, h3⟩ := spot_eq k a c r q
    simp [br_iff, h1, h2, h3])

theorem goodR_b {k a c t l b r : Int} (h : goodR k a c t l b r = true) : rightF k a c = true ∧ okR t l b r = true := by simpa [goodR] using h

theorem spAB_b {k t l b r : Int} (h : okR t l b r = true) : 1 ≤ spA k t l ∧ spA k t l ≤ spB k b r ∧ spB k b r ≤ mostF k := by
  have := okR_b h
  unfold spA spB mostF
  split <;> omega

theorem lf_en {k a c f l : Int} (h : rightF k a c = true) (hf : 1 ≤ f) (hfl : f ≤ l) (hl : l ≤ mostF k) :
    enOk k a c f l = !lfNone k a c f l ∧ (lfNone k a c f l = true → lfA k a c f l = 0 ∧ lfB k a c f l = 0) ∧
      (lfNone k a c f l = false → enA k a c f l = lfA k a c f l ∧ enB k a c f l = lfB k a c f l ∧ 1 ≤ lfA k a c f l) := by
  have hb := rightF_b h
  have e1 := w64 (x := f + c) (by omega)
  have e2 := w64 (x := f - c) (by omega)
  have e3 := w64 (x := l + c) (by omega)
  have e4 := w64 (x := l - c) (by omega)
  have e5 := w64 (x := a + c) (by omega)
  have e6 := w64 (x := a - 1) (by omega)
  have e7 := w64 (x := a + c + c) (by omega)
  have e8 := w64 (x := a + c - c) (by omega)
  cases hi : insF k
  · simp only [enOk, lfNone, lfA, lfB, enA, enB, lnN, lnT, stepN, stepT, dn, ifB, hi, e1, e2, e3, e4, e5, e6, e7, e8]
    by_cases c1 : f < a <;> by_cases c2 : l < a <;> by_cases c3 : f < a + c <;> by_cases c4 : l < a + c <;> (first | (exfalso; omega) | skip)
    all_goals simp [c1, c2, c3, c4]
    all_goals omega
  · simp only [enOk, lfNone, lfA, lfB, enA, enB, lnN, lnT, stepN, stepT, dn, ifB, hi, e1, e2, e3, e4, e5, e6, e7, e8]
    by_cases c1 : f < a <;> by_cases c2 : l < a <;> by_cases c3 : f + c > mostF k <;> by_cases c4 : l + c > mostF k <;> by_cases c5 : a + c > mostF k <;> (first | (exfalso; omega) | skip)
    all_goals simp [c1, c2, c3, c4, c5]
    all_goals omega

theorem rc_eq (k a c t l b r : Int) : rcOk k a c t l b r = rrOk k a c t l b r ∧ rcT k a c t l b r = rrT k a c t l b r ∧ rcL k a c t l b r = rrL k a c t l b r ∧ rcD k a c t l b r = rrD k a c t l b r ∧ rcR k a c t l b r = rrR k a c t l b r := by
  unfold rcOk rrOk rcT rrT rcL rrL rcD rrD rcR rrR
  unfold rcOk rrOk
  cases h : goodR k a c t l b r
  · simp [ifB]
  · obtain ⟨h1, h2⟩ := goodR_b h
    obtain ⟨p1, p2, p3⟩ := spAB_b (k := k) h2
    obtain ⟨q1, q2, q3⟩ := lf_en h1 p1 p2 p3
    simp only [rcA, rcB, q1, Bool.true_and]
    cases hn : lfNone k a c (spA k t l) (spB k b r)
    · obtain ⟨s1, s2, s3⟩ := q3 hn
      have s4 : ¬ lfA k a c (spA k t l) (spB k b r) = 0 := by omega
      by_cases hr : rowsF k = true
      · simp only [spA, spB, hr, if_true] at s1 s2 s4 ⊢
        simp [ifB, s1, s2, s4]
      · simp [spA, spB, hr] at s1 s2 s4
        simp [ifB, spA, spB, hr, s1, s2, s4]
    · obtain ⟨s1, s2⟩ := q2 hn
      simp [s1, s2, ifB]

theorem cl_eq (k a c t l b r : Int) : clF k a c t l b r = rcl k a c t l b r := by
  unfold clF rcl
  cases h : goodR k a c t l b r
  · rfl
  · obtain ⟨h1, h2⟩ := goodR_b h
    obtain ⟨p1, p2, p3⟩ := spAB_b (k := k) h2
    have hb := rightF_b h1
    have := most_b k
    simp only [Bool.true_and]
    rw [stepT_eq h1 (by omega) (by omega)]
    have hk : k = 1 ∨ k = 2 ∨ k = 3 ∨ k = 4 := by omega
    rcases hk with rfl | rfl | rfl | rfl <;> simp [insF]


set_option maxRecDepth 100000 in
theorem rects_vc (k a c t l b r : Int) {R : AV → Prop} (h : (∀ (n1 n2 : Nat), n1 = n1 ∧ n2 = n2 ∧ ∀ (n3 : Nat), n3 = n3 ∧ n1 = n1 ∧ n2 = n2 ∧ ∀ (n4 : Nat), n4 = n4 ∧ n1 = n1 ∧ n2 = n2 ∧ n1 = n1 ∧ n2 = n2 ∧ n3 = n3 ∧ n4 = n4 ∧ br (rcT k a c t l b r == rrT k a c t l b r && (rcL k a c t l b r == rrL k a c t l b r && (rcD k a c t l b r == rrD k a c t l b r && (rcR k a c t l b r == rrR k a c t l b r && true)))) (br (rcOk k a c t l b r == rrOk k a c t l b r) (br (ifB (goodR k a c t l b r) 0 2 == ifB (goodR k a c t l b r) 0 2) (br (clF k a c t l b r == rcl k a c t l b r) (br (ifB (goodR k a c t l b r) 0 2 == ifB (goodR k a c t l b r) 0 2) (R (AV.v (Value.bool true))) (R (AV.v (Value.bool false)))) (R (AV.v (Value.bool false)))) (R (AV.v (Value.bool false)))) (R (AV.v (Value.bool false)))) (R (AV.v (Value.bool false))))) : LC Try.prog 7 [.agg [.v (.int .i64 k), .v (.int .i64 a), .v (.int .i64 c)], .agg [.v (.int .i64 t), .v (.int .i64 l), .v (.int .i64 b), .v (.int .i64 r)]] [] (fun z_ _ => R z_) :=
  lc_of_exec (tbl := tb14) tab_ok tb14_ok mixed noinv _ Try.func7 rfl Try.ntmps7 (by decide) (by kernel_rfl) (Nat.le_of_ble_eq_true rfl) (Eq.mpr (by kernel_rfl : exec tab tb14 noinv 0 (body Try.f7) (argsT [.agg [.v (.int .i64 k), .v (.int .i64 a), .v (.int .i64 c)], .agg [.v (.int .i64 t), .v (.int .i64 l), .v (.int .i64 b), .v (.int .i64 r)]] 0) [] (post Try.f7 tab (fun z_ _ => R z_)) = (∀ (n1 n2 : Nat), n1 = n1 ∧ n2 = n2 ∧ ∀ (n3 : Nat), n3 = n3 ∧ n1 = n1 ∧ n2 = n2 ∧ ∀ (n4 : Nat), n4 = n4 ∧ n1 = n1 ∧ n2 = n2 ∧ n1 = n1 ∧ n2 = n2 ∧ n3 = n3 ∧ n4 = n4 ∧ br (rcT k a c t l b r == rrT k a c t l b r && (rcL k a c t l b r == rrL k a c t l b r && (rcD k a c t l b r == rrD k a c t l b r && (rcR k a c t l b r == rrR k a c t l b r && true)))) (br (rcOk k a c t l b r == rrOk k a c t l b r) (br (ifB (goodR k a c t l b r) 0 2 == ifB (goodR k a c t l b r) 0 2) (br (clF k a c t l b r == rcl k a c t l b r) (br (ifB (goodR k a c t l b r) 0 2 == ifB (goodR k a c t l b r) 0 2) (R (AV.v (Value.bool true))) (R (AV.v (Value.bool false)))) (R (AV.v (Value.bool false)))) (R (AV.v (Value.bool false)))) (R (AV.v (Value.bool false)))) (R (AV.v (Value.bool false))))) h)


theorem rects_law (k a c t l b r : Int) : LC Try.prog 7 [.agg [.v (.int .i64 k), .v (.int .i64 a), .v (.int .i64 c)], .agg [.v (.int .i64 t), .v (.int .i64 l), .v (.int .i64 b), .v (.int .i64 r)]] [] (fun z _ => z = .v (.bool true)) :=
  rects_vc k a c t l b r (by
    obtain ⟨h1, h2, h3, h4, h5⟩ := rc_eq k a c t l b r
    simp [br_iff, h1, h2, h3, h4, h5, cl_eq])

/-! Back -/
theorem back_k {k : Int} (h1 : 1 ≤ k) (h2 : k ≤ 4) : backK (backK k) = k ∧ rowsF (backK k) = rowsF k ∧ insF (backK k) = !insF k ∧ 1 ≤ backK k ∧ backK k ≤ 4 := by
  have hk : k = 1 ∨ k = 2 ∨ k = 3 ∨ k = 4 := by omega
  rcases hk with rfl | rfl | rfl | rfl <;> decide

theorem back_right {k a c : Int} (h : rightF k a c = true) : rightF (backK k) a c = true := by
  have hb := rightF_b h
  obtain ⟨_, e, _, h1, h2⟩ := back_k (k := k) (by omega) (by omega)
  have em : mostF (backK k) = mostF k := by simp [mostF, e]
  simp only [rightF, decide_eq_true_eq] at h ⊢
  rw [em]
  exact ⟨h1, h2, h.2.2⟩

theorem step_back {k a c n : Int} (h : rightF k a c = true) (h1 : 1 ≤ n) (h2 : n ≤ mostF k) (hs : stepT k a c n = 0) :
    1 ≤ stepN k a c n ∧ stepN k a c n ≤ mostF k ∧ stepT (backK k) a c (stepN k a c n) = 0 ∧ stepN (backK k) a c (stepN k a c n) = n := by
  have hb := rightF_b h
  obtain ⟨_, e, ei, _, _⟩ := back_k (k := k) (by omega) (by omega)
  have em : mostF (backK k) = mostF k := by simp [mostF, e]
  have e1 := w64 (x := n + c) (by omega)
  have e2 := w64 (x := n - c) (by omega)
  have e3 := w64 (x := n + c - c) (by omega)
  have e4 := w64 (x := n - c + c) (by omega)
  have e0 := w64 (x := n) (by omega)
  cases hi : insF k
  · simp only [stepT, stepN, hi, ei, em, e1, e2, e3, e4] at hs ⊢
    by_cases c1 : n < a <;> by_cases c2 : n - c < a <;> simp [c1, c2, e0, e1, e2, e3, e4] at hs ⊢ <;> omega
  · simp only [stepT, stepN, hi, ei, em, e1, e2, e3, e4] at hs ⊢
    by_cases c1 : n < a <;> by_cases c2 : n + c > mostF k <;> by_cases c3 : n + c < a <;> simp [c1, c2, c3, e0, e1, e2, e3, e4] at hs ⊢ <;> omega

theorem spot_back {k a c r q : Int} (h : spStay k a c r q = true) : good (backK k) a c (spR k a c r q) (spC k a c r q) = true ∧ spStay (backK k) a c (spR k a c r q) (spC k a c r q) = true ∧
    spR (backK k) a c (spR k a c r q) (spC k a c r q) = r ∧ spC (backK k) a c (spR k a c r q) (spC k a c r q) = q := by
  have h' := h
  simp only [spStay, Bool.and_eq_true, decide_eq_true_eq] at h'
  obtain ⟨hg, hs⟩ := h'
  obtain ⟨ho, hr⟩ := good_b hg
  have hb := rightF_b hr
  have hp := okP_b ho
  obtain ⟨p1, p2⟩ := spL_b (k := k) ho
  obtain ⟨s1, s2, s3, s4⟩ := step_back hr p1 p2 hs
  obtain ⟨_, e, _, _, _⟩ := back_k (k := k) (by omega) (by omega)
  have hbr := back_right hr
  cases hw : rowsF k
  · have er : spR k a c r q = r := by simp [spR, h, ifB, hw]
    have ec : spC k a c r q = stepN k a c q := by simp [spC, h, ifB, hw]
    have el : spL k r q = q := by simp [spL, hw]
    have em : mostF k = 16384 := by simp [mostF, hw]
    rw [el] at s1 s2 s3 s4
    have g : good (backK k) a c r (stepN k a c q) = true := by
      simp only [good, okP, hbr, Bool.and_true, decide_eq_true_eq]; omega
    have st : spStay (backK k) a c r (stepN k a c q) = true := by
      simp [spStay, g, spL, e, hw, s3]
    rw [er, ec]
    exact ⟨g, st, by simp [spR, st, ifB, e, hw], by simp [spC, st, ifB, e, hw, s4]⟩
  · have er : spR k a c r q = stepN k a c r := by simp [spR, h, ifB, hw]
    have ec : spC k a c r q = q := by simp [spC, h, ifB, hw]
    have el : spL k r q = r := by simp [spL, hw]
    have em : mostF k = 1048576 := by simp [mostF, hw]
    rw [el] at s1 s2 s3 s4
    have g : good (backK k) a c (stepN k a c r) q = true := by
      simp only [good, okP, hbr, Bool.and_true, decide_eq_true_eq]; omega
    have st : spStay (backK k) a c (stepN k a c r) q = true := by
      simp [spStay, g, spL, e, hw, s3]
    rw [er, ec]
    exact ⟨g, st, by simp [spR, st, ifB, e, hw, s4], by simp [spC, st, ifB, e, hw]⟩


set_option maxRecDepth 100000 in
theorem back_vc (k a c r q : Int) {R : AV → Prop} (h : (∀ (n1 n2 : Nat), n1 = n1 ∧ ∀ (n3 : Nat), n3 = n3 ∧ br (ifB (rightF k a c) 0 2 != 0) (n3 = n3 ∧ br (ifB (rightF k a c) (backK k) 0 == 0 && (ifB (rightF k a c) a 0 == 0 && (ifB (rightF k a c) c 0 == 0 && true))) (R (AV.v (Value.bool true))) (R (AV.v (Value.bool false)))) (n3 = n3 ∧ ∀ (n4 : Nat), n4 = n4 ∧ n1 = n1 ∧ n2 = n2 ∧ ∀ (n5 : Nat), n5 = n5 ∧ n4 = n4 ∧ n1 = n1 ∧ br (!(ifB (rightF (ifB (rightF k a c) (backK k) 0) (ifB (rightF k a c) a 0) (ifB (rightF k a c) c 0)) (backK (ifB (rightF k a c) (backK k) 0)) 0 == k && (ifB (rightF (ifB (rightF k a c) (backK k) 0) (ifB (rightF k a c) a 0) (ifB (rightF k a c) c 0)) (ifB (rightF k a c) a 0) 0 == a && (ifB (rightF (ifB (rightF k a c) (backK k) 0) (ifB (rightF k a c) a 0) (ifB (rightF k a c) c 0)) (ifB (rightF k a c) c 0) 0 == c && true)))) (R (AV.v (Value.bool false))) (br (ifB (rightF (ifB (rightF k a c) (backK k) 0) (ifB (rightF k a c) a 0) (ifB (rightF k a c) c 0)) 0 2 != 0) (R (AV.v (Value.bool false))) (n3 = n3 ∧ br (ifB (rightF (ifB (rightF k a c) (backK k) 0) (ifB (rightF k a c) a 0) (ifB (rightF k a c) c 0)) 0 2 != 0) (R (AV.v (Value.bool false))) (br (ifB (good k a c r q) 0 2 != 0) (n5 = n5 ∧ br (spR k a c r q == 0 && (spC k a c r q == 0 && true)) (R (AV.v (Value.bool true))) (R (AV.v (Value.bool false)))) (br (spF k a c r q != 0) (n5 = n5 ∧ br (spR k a c r q == 0 && (spC k a c r q == 0 && true)) (R (AV.v (Value.bool true))) (R (AV.v (Value.bool false)))) (n3 = n3 ∧ n5 = n5 ∧ ∀ (n6 : Nat), n6 = n6 ∧ n6 = n6 ∧ n2 = n2 ∧ br (spR (ifB (rightF k a c) (backK k) 0) (ifB (rightF k a c) a 0) (ifB (rightF k a c) c 0) (spR k a c r q) (spC k a c r q) == r && (spC (ifB (rightF k a c) (backK k) 0) (ifB (rightF k a c) a 0) (ifB (rightF k a c) c 0) (spR k a c r q) (spC k a c r q) == q && true)) (br (spF (ifB (rightF k a c) (backK k) 0) (ifB (rightF k a c) a 0) (ifB (rightF k a c) c 0) (spR k a c r q) (spC k a c r q) == 0) (br (ifB (good (ifB (rightF k a c) (backK k) 0) (ifB (rightF k a c) a 0) (ifB (rightF k a c) c 0) (spR k a c r q) (spC k a c r q)) 0 2 == 0) (R (AV.v (Value.bool true))) (R (AV.v (Value.bool false)))) (R (AV.v (Value.bool false)))) (R (AV.v (Value.bool false))))))))))) : LC Try.prog 4 [.agg [.v (.int .i64 k), .v (.int .i64 a), .v (.int .i64 c)], .agg [.v (.int .i64 r), .v (.int .i64 q)]] [] (fun z_ _ => R z_) :=
  lc_of_exec (tbl := tb14) tab_ok tb14_ok mixed noinv _ Try.func4 rfl Try.ntmps4 (by decide) (by kernel_rfl) (Nat.le_of_ble_eq_true rfl) (Eq.mpr (by kernel_rfl : exec tab tb14 noinv 0 (body Try.f4) (argsT [.agg [.v (.int .i64 k), .v (.int .i64 a), .v (.int .i64 c)], .agg [.v (.int .i64 r), .v (.int .i64 q)]] 0) [] (post Try.f4 tab (fun z_ _ => R z_)) = (∀ (n1 n2 : Nat), n1 = n1 ∧ ∀ (n3 : Nat), n3 = n3 ∧ br (ifB (rightF k a c) 0 2 != 0) (n3 = n3 ∧ br (ifB (rightF k a c) (backK k) 0 == 0 && (ifB (rightF k a c) a 0 == 0 && (ifB (rightF k a c) c 0 == 0 && true))) (R (AV.v (Value.bool true))) (R (AV.v (Value.bool false)))) (n3 = n3 ∧ ∀ (n4 : Nat), n4 = n4 ∧ n1 = n1 ∧ n2 = n2 ∧ ∀ (n5 : Nat), n5 = n5 ∧ n4 = n4 ∧ n1 = n1 ∧ br (!(ifB (rightF (ifB (rightF k a c) (backK k) 0) (ifB (rightF k a c) a 0) (ifB (rightF k a c) c 0)) (backK (ifB (rightF k a c) (backK k) 0)) 0 == k && (ifB (rightF (ifB (rightF k a c) (backK k) 0) (ifB (rightF k a c) a 0) (ifB (rightF k a c) c 0)) (ifB (rightF k a c) a 0) 0 == a && (ifB (rightF (ifB (rightF k a c) (backK k) 0) (ifB (rightF k a c) a 0) (ifB (rightF k a c) c 0)) (ifB (rightF k a c) c 0) 0 == c && true)))) (R (AV.v (Value.bool false))) (br (ifB (rightF (ifB (rightF k a c) (backK k) 0) (ifB (rightF k a c) a 0) (ifB (rightF k a c) c 0)) 0 2 != 0) (R (AV.v (Value.bool false))) (n3 = n3 ∧ br (ifB (rightF (ifB (rightF k a c) (backK k) 0) (ifB (rightF k a c) a 0) (ifB (rightF k a c) c 0)) 0 2 != 0) (R (AV.v (Value.bool false))) (br (ifB (good k a c r q) 0 2 != 0) (n5 = n5 ∧ br (spR k a c r q == 0 && (spC k a c r q == 0 && true)) (R (AV.v (Value.bool true))) (R (AV.v (Value.bool false)))) (br (spF k a c r q != 0) (n5 = n5 ∧ br (spR k a c r q == 0 && (spC k a c r q == 0 && true)) (R (AV.v (Value.bool true))) (R (AV.v (Value.bool false)))) (n3 = n3 ∧ n5 = n5 ∧ ∀ (n6 : Nat), n6 = n6 ∧ n6 = n6 ∧ n2 = n2 ∧ br (spR (ifB (rightF k a c) (backK k) 0) (ifB (rightF k a c) a 0) (ifB (rightF k a c) c 0) (spR k a c r q) (spC k a c r q) == r && (spC (ifB (rightF k a c) (backK k) 0) (ifB (rightF k a c) a 0) (ifB (rightF k a c) c 0) (spR k a c r q) (spC k a c r q) == q && true)) (br (spF (ifB (rightF k a c) (backK k) 0) (ifB (rightF k a c) a 0) (ifB (rightF k a c) c 0) (spR k a c r q) (spC k a c r q) == 0) (br (ifB (good (ifB (rightF k a c) (backK k) 0) (ifB (rightF k a c) a 0) (ifB (rightF k a c) c 0) (spR k a c r q) (spC k a c r q)) 0 2 == 0) (R (AV.v (Value.bool true))) (R (AV.v (Value.bool false)))) (R (AV.v (Value.bool false)))) (R (AV.v (Value.bool false))))))))))) h)


theorem back_law (k a c r q : Int) : LC Try.prog 4 [.agg [.v (.int .i64 k), .v (.int .i64 a), .v (.int .i64 c)], .agg [.v (.int .i64 r), .v (.int .i64 q)]] [] (fun z _ => z = .v (.bool true)) :=
  back_vc k a c r q (by
    cases h : rightF k a c
    · simp [br_iff, ifB]
    · have hb := rightF_b h
      obtain ⟨e1, _, _, _, _⟩ := back_k (k := k) (by omega) (by omega)
      have h2 := back_right h
      cases hs : spStay k a c r q
      · have hz : spR k a c r q = 0 ∧ spC k a c r q = 0 := by simp [spR, spC, hs, ifB]
        cases hg : good k a c r q
        · simp [br_iff, ifB, h2, e1, hz]
        · have hf : ¬ spF k a c r q = 0 := by
            simp [spStay, hg] at hs
            simp [spF, hg, ifB, hs]
          simp [br_iff, ifB, h2, e1, hz, hf]
      · obtain ⟨g, st, er, ec⟩ := spot_back hs
        have hg : good k a c r q = true := by simp [spStay] at hs; exact hs.1
        have hf : spF k a c r q = 0 := by simp [spStay] at hs; simp [spF, hg, ifB, hs]
        have hf2 : spF (backK k) a c (spR k a c r q) (spC k a c r q) = 0 := by simp [spStay] at st; simp [spF, g, ifB, st]
        simp [br_iff, ifB, h2, e1, hg, hf, g, er, ec, hf2])

theorem step_mono {k a c n m : Int} (h : rightF k a c = true) (h1 : 1 ≤ n) (h2 : n ≤ 1048576) (g1 : 1 ≤ m) (g2 : m ≤ 1048576) (hn : stepT k a c n = 0) (hm : stepT k a c m = 0) :
    (n < m ↔ stepN k a c n < stepN k a c m) ∧ (n = m ↔ stepN k a c n = stepN k a c m) := by
  have hb := rightF_b h
  have e1 := w64 (x := n + c) (by omega)
  have e2 := w64 (x := n - c) (by omega)
  have e3 := w64 (x := m + c) (by omega)
  have e4 := w64 (x := m - c) (by omega)
  simp only [stepT, stepN, e1, e2, e3, e4] at hn hm ⊢
  cases hi : insF k <;> simp only [hi] at hn hm ⊢
  · by_cases c1 : n < a <;> by_cases c2 : m < a <;> by_cases c3 : n - c < a <;> by_cases c4 : m - c < a <;> simp [c1, c2, c3, c4] at hn hm ⊢ <;> omega
  · by_cases c1 : n < a <;> by_cases c2 : m < a <;> simp [c1, c2] at hn hm ⊢ <;> omega


set_option maxRecDepth 100000 in
theorem order_vc (k a c r q y x : Int) {R : AV → Prop} (h : (∀ (n1 n2 n3 : Nat), n1 = n1 ∧ n2 = n2 ∧ ∀ (n4 : Nat), n4 = n4 ∧ n1 = n1 ∧ n3 = n3 ∧ ∀ (n5 : Nat), n5 = n5 ∧ br (ifB (good k a c r q) 0 2 != 0) (R (AV.v (Value.bool true))) (br (ifB (good k a c y x) 0 2 != 0) (R (AV.v (Value.bool true))) (br (spF k a c r q != 0) (R (AV.v (Value.bool true))) (br (spF k a c y x != 0) (R (AV.v (Value.bool true))) (n2 = n2 ∧ n3 = n3 ∧ n4 = n4 ∧ n5 = n5 ∧ br (decide (r < y) == decide (spR k a c r q < spR k a c y x)) (n2 = n2 ∧ n3 = n3 ∧ n4 = n4 ∧ n5 = n5 ∧ br (decide (q < x) == decide (spC k a c r q < spC k a c y x)) (n2 = n2 ∧ n3 = n3 ∧ n4 = n4 ∧ n5 = n5 ∧ br ((r == y && (q == x && true)) == (spR k a c r q == spR k a c y x && (spC k a c r q == spC k a c y x && true))) (R (AV.v (Value.bool true))) (R (AV.v (Value.bool false)))) (R (AV.v (Value.bool false)))) (R (AV.v (Value.bool false))))))))) : LC Try.prog 5 [.agg [.v (.int .i64 k), .v (.int .i64 a), .v (.int .i64 c)], .agg [.v (.int .i64 r), .v (.int .i64 q)], .agg [.v (.int .i64 y), .v (.int .i64 x)]] [] (fun z_ _ => R z_) :=
  lc_of_exec (tbl := tb14) tab_ok tb14_ok mixed noinv _ Try.func5 rfl Try.ntmps5 (by decide) (by kernel_rfl) (Nat.le_of_ble_eq_true rfl) (Eq.mpr (by kernel_rfl : exec tab tb14 noinv 0 (body Try.f5) (argsT [.agg [.v (.int .i64 k), .v (.int .i64 a), .v (.int .i64 c)], .agg [.v (.int .i64 r), .v (.int .i64 q)], .agg [.v (.int .i64 y), .v (.int .i64 x)]] 0) [] (post Try.f5 tab (fun z_ _ => R z_)) = (∀ (n1 n2 n3 : Nat), n1 = n1 ∧ n2 = n2 ∧ ∀ (n4 : Nat), n4 = n4 ∧ n1 = n1 ∧ n3 = n3 ∧ ∀ (n5 : Nat), n5 = n5 ∧ br (ifB (good k a c r q) 0 2 != 0) (R (AV.v (Value.bool true))) (br (ifB (good k a c y x) 0 2 != 0) (R (AV.v (Value.bool true))) (br (spF k a c r q != 0) (R (AV.v (Value.bool true))) (br (spF k a c y x != 0) (R (AV.v (Value.bool true))) (n2 = n2 ∧ n3 = n3 ∧ n4 = n4 ∧ n5 = n5 ∧ br (decide (r < y) == decide (spR k a c r q < spR k a c y x)) (n2 = n2 ∧ n3 = n3 ∧ n4 = n4 ∧ n5 = n5 ∧ br (decide (q < x) == decide (spC k a c r q < spC k a c y x)) (n2 = n2 ∧ n3 = n3 ∧ n4 = n4 ∧ n5 = n5 ∧ br ((r == y && (q == x && true)) == (spR k a c r q == spR k a c y x && (spC k a c r q == spC k a c y x && true))) (R (AV.v (Value.bool true))) (R (AV.v (Value.bool false)))) (R (AV.v (Value.bool false)))) (R (AV.v (Value.bool false))))))))) h)


theorem ifB_02 (c : Bool) : (ifB c 0 2 != 0) = !c := by cases c <;> rfl

theorem spF_stay {k a c r q : Int} (hg : good k a c r q = true) (hf : spF k a c r q = 0) : spStay k a c r q = true := by
  simp [spF, hg, ifB] at hf
  simp [spStay, hg, hf]

theorem spot_mono {k a c r q y x : Int} (g1 : good k a c r q = true) (g2 : good k a c y x = true) (f1 : spF k a c r q = 0) (f2 : spF k a c y x = 0) :
    (r < y ↔ spR k a c r q < spR k a c y x) ∧ (r = y ↔ spR k a c r q = spR k a c y x) ∧ (q < x ↔ spC k a c r q < spC k a c y x) ∧ (q = x ↔ spC k a c r q = spC k a c y x) := by
  have s1 := spF_stay g1 f1
  have s2 := spF_stay g2 f2
  obtain ⟨ho, hr⟩ := good_b g1
  obtain ⟨ho2, _⟩ := good_b g2
  have hp := okP_b ho
  have hp2 := okP_b ho2
  have t1 : stepT k a c (spL k r q) = 0 := by simp [spStay] at s1; exact s1.2
  have t2 : stepT k a c (spL k y x) = 0 := by simp [spStay] at s2; exact s2.2
  cases hw : rowsF k
  · simp only [spL, hw] at t1 t2
    have := step_mono hr (by omega) (by omega) (by omega) (by omega) t1 t2
    simp only [spR, spC, s1, s2, ifB, hw]
    exact ⟨Iff.rfl, Iff.rfl, this.1, this.2⟩
  · simp only [spL, hw] at t1 t2
    have := step_mono hr (by omega) (by omega) (by omega) (by omega) t1 t2
    simp only [spR, spC, s1, s2, ifB, hw]
    exact ⟨this.1, this.2, Iff.rfl, Iff.rfl⟩

theorem order_law (k a c r q y x : Int) : LC Try.prog 5 [.agg [.v (.int .i64 k), .v (.int .i64 a), .v (.int .i64 c)], .agg [.v (.int .i64 r), .v (.int .i64 q)], .agg [.v (.int .i64 y), .v (.int .i64 x)]] [] (fun z _ => z = .v (.bool true)) :=
  order_vc k a c r q y x (by
    simp only [ifB_02]
    cases g1 : good k a c r q
    · simp [br_iff]
    · cases g2 : good k a c y x
      · simp [br_iff]
      · by_cases f1 : spF k a c r q = 0
        · by_cases f2 : spF k a c y x = 0
          · obtain ⟨m1, m2, m3, m4⟩ := spot_mono g1 g2 f1 f2
            have n1 : decide (r < y) = decide (spR k a c r q < spR k a c y x) := by rw [decide_eq_decide]; exact m1
            have n2 : decide (q < x) = decide (spC k a c r q < spC k a c y x) := by rw [decide_eq_decide]; exact m3
            have n3 : (r == y) = (spR k a c r q == spR k a c y x) := by rw [Bool.eq_iff_iff]; simpa using m2
            have n4 : (q == x) = (spC k a c r q == spC k a c y x) := by rw [Bool.eq_iff_iff]; simpa using m4
            simp [br_iff, f1, f2, n1, n2, n3, n4]
          · simp [br_iff, f1, f2]
        · simp [br_iff, f1])
end Go.Proofs.Ytbdifnmadaggaaa

