/- Move: the laws of MoveInside, MoveGrows, MoveClips. -/
import Derived.Test.YtbdifnmadaggaaaE
namespace Go.Proofs.Ytbdifnmadaggaaa
open Go Go.Eng
set_option linter.unusedVariables false
set_option linter.unusedSimpArgs false

theorem okR_iff {t l b r : Int} : okR t l b r = true ↔ 1 ≤ t ∧ t ≤ b ∧ b ≤ 1048576 ∧ 1 ≤ l ∧ l ≤ r ∧ r ≤ 16384 := by
  simp only [okR, okP, Bool.and_eq_true, decide_eq_true_eq]; omega

theorem lf_b {k a c f l : Int} (h : rightF k a c = true) (hf : 1 ≤ f) (hfl : f ≤ l) (hl : l ≤ mostF k) (hn : lfNone k a c f l = false) :
    1 ≤ lfA k a c f l ∧ lfA k a c f l ≤ lfB k a c f l ∧ lfB k a c f l ≤ mostF k ∧
    (insF k = false → (l ≥ a ∧ f < a + c → lfB k a c f l - lfA k a c f l < l - f) ∧ (¬(l ≥ a ∧ f < a + c) → lfB k a c f l - lfA k a c f l = l - f)) ∧
    (insF k = true → stepT k a c l ≠ 2 → lfB k a c f l - lfA k a c f l ≥ l - f) ∧
    ∀ n, 1 ≤ n → n ≤ mostF k → stepT k a c n = 0 → ((f ≤ n ∧ n ≤ l) ↔ lfA k a c f l ≤ stepN k a c n ∧ stepN k a c n ≤ lfB k a c f l) := by
  have hb := rightF_b h
  have e1 := w64 (x := f + c) (by omega)
  have e2 := w64 (x := f - c) (by omega)
  have e3 := w64 (x := l + c) (by omega)
  have e4 := w64 (x := l - c) (by omega)
  have e5 := w64 (x := a + c) (by omega)
  have e6 := w64 (x := a - 1) (by omega)
  cases hi : insF k
  · simp only [lfNone, lfA, lfB, stepN, stepT, dn, hi, e1, e2, e3, e4, e5, e6] at hn ⊢
    by_cases c1 : f < a <;> by_cases c2 : l < a <;> by_cases c3 : f < a + c <;> by_cases c4 : l < a + c <;> (first | (exfalso; omega) | skip)
    all_goals simp [c1, c2, c3, c4] at hn ⊢
    all_goals (try omega)
    all_goals
      refine ⟨by omega, by omega, by omega, by omega, fun n n1 n2 n3 => ?_⟩
      have e7 := w64 (x := n - c) (by omega)
      rw [e7] at n3
      rw [e7]
      by_cases d1 : n < a <;> by_cases d2 : n - c < a <;> simp [d1, d2] at n3 ⊢ <;> omega
  · simp only [lfNone, lfA, lfB, stepN, stepT, dn, hi, e1, e2, e3, e4, e5, e6] at hn ⊢
    by_cases c1 : f < a <;> by_cases c2 : l < a <;> by_cases c3 : f + c > mostF k <;> by_cases c4 : l + c > mostF k <;> by_cases c5 : a + c > mostF k <;> (first | (exfalso; omega) | skip)
    all_goals simp [c1, c2, c3, c4, c5] at hn ⊢
    all_goals (try omega)
    all_goals (repeat' apply And.intro)
    all_goals (try omega)
    all_goals
      intro n n1 n2 n3
      have e7 := w64 (x := n + c) (by omega)
      rw [e7] at n3
      rw [e7]
      by_cases d1 : n < a <;> by_cases d2 : n + c > mostF k <;> simp [d1, d2] at n3 ⊢ <;> omega

theorem rc_none {k a c t l b r : Int} (h : rcOk k a c t l b r = false) : rcT k a c t l b r = 0 ∧ rcL k a c t l b r = 0 ∧ rcD k a c t l b r = 0 ∧ rcR k a c t l b r = 0 := by
  simp [rcT, rcL, rcD, rcR, h, ifB]

theorem rc_lf {k a c t l b r : Int} (h : goodR k a c t l b r = true) : rcOk k a c t l b r = !lfNone k a c (spA k t l) (spB k b r) := by
  obtain ⟨h1, h2⟩ := goodR_b h
  obtain ⟨p1, p2, p3⟩ := spAB_b (k := k) h2
  obtain ⟨q1, q2, q3⟩ := lf_en h1 p1 p2 p3
  rw [(rc_eq k a c t l b r).1]
  simp [rrOk, h, q1]

theorem rc_okR {k a c t l b r : Int} (h : goodR k a c t l b r = true) : okR (rcT k a c t l b r) (rcL k a c t l b r) (rcD k a c t l b r) (rcR k a c t l b r) = rcOk k a c t l b r := by
  cases ho : rcOk k a c t l b r
  · obtain ⟨e1, e2, e3, e4⟩ := rc_none ho
    rw [e1, e2, e3, e4]
    rfl
  · have hn := rc_lf h
    rw [ho] at hn
    obtain ⟨h1, h2⟩ := goodR_b h
    obtain ⟨p1, p2, p3⟩ := spAB_b (k := k) h2
    obtain ⟨q1, q2, q3, _⟩ := lf_b h1 p1 p2 p3 (by simpa using hn)
    have hb := okR_b h2
    rw [okR_iff]
    simp only [rcT, rcL, rcD, rcR, ho, ifB, rcA, rcB]
    by_cases hw : rowsF k = true
    · simp only [hw, if_true, mostF] at q3 ⊢
      omega
    · have hw : rowsF k = false := by simpa using hw
      simp only [hw, mostF] at q3 ⊢
      simp at q3 ⊢
      omega

theorem rc_in {k a c t l b r y x : Int} (h : goodR k a c t l b r = true) (hg : good k a c y x = true) (hf : spF k a c y x = 0) :
    inF t l b r y x = (rcOk k a c t l b r && inF (rcT k a c t l b r) (rcL k a c t l b r) (rcD k a c t l b r) (rcR k a c t l b r) (spR k a c y x) (spC k a c y x)) := by
  have hs := spF_stay hg hf
  have ht : stepT k a c (spL k y x) = 0 := by simp [spStay] at hs; exact hs.2
  obtain ⟨ho, hr⟩ := good_b hg
  obtain ⟨s1, s2⟩ := spL_b (k := k) ho
  obtain ⟨h1, h2⟩ := goodR_b h
  obtain ⟨p1, p2, p3⟩ := spAB_b (k := k) h2
  have hrc := rc_lf h
  unfold inF
  rw [rc_okR h, h2, hrc]
  cases hn : lfNone k a c (spA k t l) (spB k b r)
  · rw [hn] at hrc
    obtain ⟨q1, q2, q3, _, _, q4⟩ := lf_b h1 p1 p2 p3 hn
    have q5 := q4 _ s1 s2 ht
    simp only [Bool.not_false, Bool.true_and, decide_eq_decide]
    simp only [Bool.not_false] at hrc
    simp only [rcT, rcL, rcD, rcR, rcA, rcB, hrc, ifB, if_true, spR, spC, hs]
    by_cases hw : rowsF k = true
    · simp only [hw, if_true, spA, spB, spL] at q5 ⊢
      omega
    · have hw : rowsF k = false := by simpa using hw
      simp [hw, spA, spB, spL] at q5 ⊢
      omega
  · simp only [Bool.not_true, Bool.false_and, Bool.true_and, decide_eq_false_iff_not]
    have hb := rightF_b h1
    have hbp := okP_b ho
    have e5 := w64 (x := a + c) (by omega)
    have hlast : mostF k ≤ 1048576 := (most_b k).2
    have e7 := w64 (x := spL k y x + c) (by omega)
    have e8 := w64 (x := spL k y x - c) (by omega)
    have e9 := w64 (x := spA k t l + c) (by omega)
    have key : ¬ (spA k t l ≤ spL k y x ∧ spL k y x ≤ spB k b r) := by
      simp only [lfNone, stepT, e5, e7, e8, e9] at hn ht
      cases hi : insF k
      · simp only [hi] at hn ht
        by_cases d1 : spL k y x < a <;> by_cases d2 : spL k y x - c < a <;> simp [d1, d2] at hn ht <;> omega
      · simp only [hi] at hn ht
        by_cases d1 : spL k y x < a <;> by_cases d2 : spL k y x + c > mostF k <;> by_cases d3 : spA k t l < a <;> by_cases d4 : spA k t l + c > mostF k <;> simp [d1, d2, d3, d4] at hn ht <;> omega
    by_cases hw : rowsF k = true
    · simp only [hw, if_true, spA, spB, spL] at key
      omega
    · have hw : rowsF k = false := by simpa using hw
      simp [hw, spA, spB, spL] at key
      omega


set_option maxRecDepth 100000 in
theorem inside_vc (k a c t l b r y x : Int) {R : AV → Prop} (h : (∀ (n1 n2 n3 : Nat), n1 = n1 ∧ n3 = n3 ∧ ∀ (n4 : Nat), n4 = n4 ∧ n1 = n1 ∧ n2 = n2 ∧ ∀ (n5 : Nat), n5 = n5 ∧ br (ifB (good k a c y x) 0 2 != 0) (R (AV.v (Value.bool true))) (br (ifB (goodR k a c t l b r) 0 2 != 0) (R (AV.v (Value.bool true))) (br (spF k a c y x != 0) (R (AV.v (Value.bool true))) (n2 = n2 ∧ n3 = n3 ∧ br (rcOk k a c t l b r) (n5 = n5 ∧ n4 = n4 ∧ br (inF t l b r y x == inF (rcT k a c t l b r) (rcL k a c t l b r) (rcD k a c t l b r) (rcR k a c t l b r) (spR k a c y x) (spC k a c y x)) (n5 = n5 ∧ br (rcOk k a c t l b r == (ifB (okR (rcT k a c t l b r) (rcL k a c t l b r) (rcD k a c t l b r) (rcR k a c t l b r)) 0 2 == 0)) (R (AV.v (Value.bool true))) (R (AV.v (Value.bool false)))) (R (AV.v (Value.bool false)))) (br (inF t l b r y x == false) (n5 = n5 ∧ br (rcOk k a c t l b r == (ifB (okR (rcT k a c t l b r) (rcL k a c t l b r) (rcD k a c t l b r) (rcR k a c t l b r)) 0 2 == 0)) (R (AV.v (Value.bool true))) (R (AV.v (Value.bool false)))) (R (AV.v (Value.bool false))))))))) : LC Try.prog 6 [.agg [.v (.int .i64 k), .v (.int .i64 a), .v (.int .i64 c)], .agg [.v (.int .i64 t), .v (.int .i64 l), .v (.int .i64 b), .v (.int .i64 r)], .agg [.v (.int .i64 y), .v (.int .i64 x)]] [] (fun z_ _ => R z_) :=
  lc_of_exec (tbl := tb14) tab_ok tb14_ok mixed noinv _ Try.func6 rfl Try.ntmps6 (by decide) (by kernel_rfl) (Nat.le_of_ble_eq_true rfl) (Eq.mpr (by kernel_rfl : exec tab tb14 noinv 0 (body Try.f6) (argsT [.agg [.v (.int .i64 k), .v (.int .i64 a), .v (.int .i64 c)], .agg [.v (.int .i64 t), .v (.int .i64 l), .v (.int .i64 b), .v (.int .i64 r)], .agg [.v (.int .i64 y), .v (.int .i64 x)]] 0) [] (post Try.f6 tab (fun z_ _ => R z_)) = (∀ (n1 n2 n3 : Nat), n1 = n1 ∧ n3 = n3 ∧ ∀ (n4 : Nat), n4 = n4 ∧ n1 = n1 ∧ n2 = n2 ∧ ∀ (n5 : Nat), n5 = n5 ∧ br (ifB (good k a c y x) 0 2 != 0) (R (AV.v (Value.bool true))) (br (ifB (goodR k a c t l b r) 0 2 != 0) (R (AV.v (Value.bool true))) (br (spF k a c y x != 0) (R (AV.v (Value.bool true))) (n2 = n2 ∧ n3 = n3 ∧ br (rcOk k a c t l b r) (n5 = n5 ∧ n4 = n4 ∧ br (inF t l b r y x == inF (rcT k a c t l b r) (rcL k a c t l b r) (rcD k a c t l b r) (rcR k a c t l b r) (spR k a c y x) (spC k a c y x)) (n5 = n5 ∧ br (rcOk k a c t l b r == (ifB (okR (rcT k a c t l b r) (rcL k a c t l b r) (rcD k a c t l b r) (rcR k a c t l b r)) 0 2 == 0)) (R (AV.v (Value.bool true))) (R (AV.v (Value.bool false)))) (R (AV.v (Value.bool false)))) (br (inF t l b r y x == false) (n5 = n5 ∧ br (rcOk k a c t l b r == (ifB (okR (rcT k a c t l b r) (rcL k a c t l b r) (rcD k a c t l b r) (rcR k a c t l b r)) 0 2 == 0)) (R (AV.v (Value.bool true))) (R (AV.v (Value.bool false)))) (R (AV.v (Value.bool false))))))))) h)


theorem ifB_00 (c : Bool) : (ifB c 0 2 == 0) = c := by cases c <;> rfl

theorem inside_law (k a c t l b r y x : Int) : LC Try.prog 6 [.agg [.v (.int .i64 k), .v (.int .i64 a), .v (.int .i64 c)], .agg [.v (.int .i64 t), .v (.int .i64 l), .v (.int .i64 b), .v (.int .i64 r)], .agg [.v (.int .i64 y), .v (.int .i64 x)]] [] (fun z _ => z = .v (.bool true)) :=
  inside_vc k a c t l b r y x (by
    simp only [ifB_02, ifB_00]
    cases hg : good k a c y x
    · simp [br_iff]
    · cases h : goodR k a c t l b r
      · simp [br_iff]
      · by_cases hf : spF k a c y x = 0
        · have e1 := rc_in h hg hf
          have e2 := rc_okR h
          cases ho : rcOk k a c t l b r
          · rw [ho] at e1
            simp only [Bool.false_and] at e1
            simp [br_iff, hf, e1, e2, ho]
          · rw [ho] at e1
            simp only [Bool.true_and] at e1
            simp [br_iff, hf, e1, e2, ho]
        · simp [br_iff, hf])


set_option maxRecDepth 100000 in
theorem grows_vc (t l b r a c i : Int) {R : AV → Prop} (h : (∀ (n1 n2 : Nat), n2 = n2 ∧ n2 = n2 ∧ n1 = n1 ∧ ∀ (n3 : Nat), n3 = n3 ∧ n2 = n2 ∧ n1 = n1 ∧ br (ifB (goodR 1 a c t l b r) 0 2 != 0) (R (AV.v (Value.bool true))) (br (!rcOk 1 a c t l b r) (R (AV.v (Value.bool true))) (br (clF 1 a c t l b r) (R (AV.v (Value.bool true))) (br (decide (i < 0)) (R (AV.v (Value.bool true))) (br (decide (i ≥ c)) (R (AV.v (Value.bool true))) (n3 = n3 ∧ ∀ (n4 : Nat), n4 = n4 ∧ n3 = n3 ∧ n4 = n4 ∧ n1 = n1 ∧ br (decide (t < a)) (n1 = n1 ∧ br (inF (rcT 1 a c t l b r) (rcL 1 a c t l b r) (rcD 1 a c t l b r) (rcR 1 a c t l b r) (IntKind.i64.wrap (a + i)) (rcL 1 a c t l b r) == decide (a ≤ b)) (n3 = n3 ∧ n1 = n1 ∧ br (rcL 1 a c t l b r == l) (n3 = n3 ∧ n1 = n1 ∧ br (rcR 1 a c t l b r == r) (R (AV.v (Value.bool true))) (R (AV.v (Value.bool false)))) (R (AV.v (Value.bool false)))) (R (AV.v (Value.bool false)))) (br (inF (rcT 1 a c t l b r) (rcL 1 a c t l b r) (rcD 1 a c t l b r) (rcR 1 a c t l b r) (IntKind.i64.wrap (a + i)) (rcL 1 a c t l b r) == false) (n3 = n3 ∧ n1 = n1 ∧ br (rcL 1 a c t l b r == l) (n3 = n3 ∧ n1 = n1 ∧ br (rcR 1 a c t l b r == r) (R (AV.v (Value.bool true))) (R (AV.v (Value.bool false)))) (R (AV.v (Value.bool false)))) (R (AV.v (Value.bool false))))))))))) : LC Try.prog 8 [.agg [.v (.int .i64 t), .v (.int .i64 l), .v (.int .i64 b), .v (.int .i64 r)], .v (.int .i64 a), .v (.int .i64 c), .v (.int .i64 i)] [] (fun z_ _ => R z_) :=
  lc_of_exec (tbl := tb14) tab_ok tb14_ok mixed noinv _ Try.func8 rfl Try.ntmps8 (by decide) (by kernel_rfl) (Nat.le_of_ble_eq_true rfl) (Eq.mpr (by kernel_rfl : exec tab tb14 noinv 0 (body Try.f8) (argsT [.agg [.v (.int .i64 t), .v (.int .i64 l), .v (.int .i64 b), .v (.int .i64 r)], .v (.int .i64 a), .v (.int .i64 c), .v (.int .i64 i)] 0) [] (post Try.f8 tab (fun z_ _ => R z_)) = (∀ (n1 n2 : Nat), n2 = n2 ∧ n2 = n2 ∧ n1 = n1 ∧ ∀ (n3 : Nat), n3 = n3 ∧ n2 = n2 ∧ n1 = n1 ∧ br (ifB (goodR 1 a c t l b r) 0 2 != 0) (R (AV.v (Value.bool true))) (br (!rcOk 1 a c t l b r) (R (AV.v (Value.bool true))) (br (clF 1 a c t l b r) (R (AV.v (Value.bool true))) (br (decide (i < 0)) (R (AV.v (Value.bool true))) (br (decide (i ≥ c)) (R (AV.v (Value.bool true))) (n3 = n3 ∧ ∀ (n4 : Nat), n4 = n4 ∧ n3 = n3 ∧ n4 = n4 ∧ n1 = n1 ∧ br (decide (t < a)) (n1 = n1 ∧ br (inF (rcT 1 a c t l b r) (rcL 1 a c t l b r) (rcD 1 a c t l b r) (rcR 1 a c t l b r) (IntKind.i64.wrap (a + i)) (rcL 1 a c t l b r) == decide (a ≤ b)) (n3 = n3 ∧ n1 = n1 ∧ br (rcL 1 a c t l b r == l) (n3 = n3 ∧ n1 = n1 ∧ br (rcR 1 a c t l b r == r) (R (AV.v (Value.bool true))) (R (AV.v (Value.bool false)))) (R (AV.v (Value.bool false)))) (R (AV.v (Value.bool false)))) (br (inF (rcT 1 a c t l b r) (rcL 1 a c t l b r) (rcD 1 a c t l b r) (rcR 1 a c t l b r) (IntKind.i64.wrap (a + i)) (rcL 1 a c t l b r) == false) (n3 = n3 ∧ n1 = n1 ∧ br (rcL 1 a c t l b r == l) (n3 = n3 ∧ n1 = n1 ∧ br (rcR 1 a c t l b r == r) (R (AV.v (Value.bool true))) (R (AV.v (Value.bool false)))) (R (AV.v (Value.bool false)))) (R (AV.v (Value.bool false))))))))))) h)


theorem grows_in {t l b r a c i : Int} (h : goodR 1 a c t l b r = true) (ho : rcOk 1 a c t l b r = true) (hc : clF 1 a c t l b r = false) (h0 : 0 ≤ i) (h1 : i < c) :
    rcL 1 a c t l b r = l ∧ rcR 1 a c t l b r = r ∧ inF (rcT 1 a c t l b r) (rcL 1 a c t l b r) (rcD 1 a c t l b r) (rcR 1 a c t l b r) (IntKind.i64.wrap (a + i)) l = (decide (t < a) && decide (a ≤ b)) := by
  have hw : rowsF 1 = true := by decide
  have hi : insF 1 = true := by decide
  obtain ⟨g1, g2⟩ := goodR_b h
  have hb := rightF_b g1
  have hm : mostF 1 = 1048576 := by decide
  have hk := okR_b g2
  have eL : rcL 1 a c t l b r = l := by simp [rcL, ho, ifB, hw]
  have eR : rcR 1 a c t l b r = r := by simp [rcR, ho, ifB, hw]
  refine ⟨eL, eR, ?_⟩
  unfold inF
  rw [rc_okR h, ho, eL, eR]
  have e1 := w64 (x := t + c) (by omega)
  have e2 := w64 (x := b + c) (by omega)
  have e3 := w64 (x := a + i) (by omega)
  have hn := rc_lf h
  rw [ho] at hn
  have hn : lfNone 1 a c t b = false := by simpa [spA, spB, hw] using hn
  simp only [rcT, rcD, ho, ifB, hw, if_true, rcA, rcB, spA, spB, lfA, lfB, hn, hi, e3, Bool.true_and]
  simp only [clF, h, hi, spB, hw, if_true, stepT, e2, hm, Bool.true_and] at hc
  simp only [lfNone, hi, stepT, e1, hm] at hn
  simp only [stepN, stepT, hi, e1, e2, hm]
  rw [Bool.eq_iff_iff]
  by_cases c1 : t < a <;> by_cases c2 : b < a <;> by_cases c3 : t + c > 1048576 <;> by_cases c4 : b + c > 1048576 <;> simp [c1, c2, c3, c4] at hc hn ⊢ <;> omega

theorem grows_law (t l b r a c i : Int) : LC Try.prog 8 [.agg [.v (.int .i64 t), .v (.int .i64 l), .v (.int .i64 b), .v (.int .i64 r)], .v (.int .i64 a), .v (.int .i64 c), .v (.int .i64 i)] [] (fun z _ => z = .v (.bool true)) :=
  grows_vc t l b r a c i (by
    simp only [ifB_02, ifB_00]
    cases h : goodR 1 a c t l b r
    · simp [br_iff]
    · cases ho : rcOk 1 a c t l b r
      · simp [br_iff]
      · cases hc : clF 1 a c t l b r
        · by_cases h0 : i < 0
          · simp [br_iff, h0]
          · by_cases h1 : i ≥ c
            · simp [br_iff, h0, h1]
            · obtain ⟨e1, e2, e3⟩ := grows_in (i := i) h ho hc (by omega) (by omega)
              rw [e1, e2] at e3
              have h1' : ¬ c ≤ i := h1
              by_cases ht : t < a
              · simp [br_iff, h0, h1', e1, e2, e3, ht]
              · simp [br_iff, h0, h1', e1, e2, e3, ht]
        · simp [br_iff])

theorem area_pos {t l b r : Int} (h : okR t l b r = true) : 1 ≤ areaF t l b r := by
  have := okR_b h
  simp only [areaF, h, ifB, if_true]
  have := Int.mul_le_mul (a := 1) (b := 1) (c := b - t + 1) (d := r - l + 1) (by omega) (by omega) (by omega) (by omega)
  omega

theorem clips_area {k a c t l b r : Int} (h : goodR k a c t l b r = true) :
    (insF k = false → (clF k a c t l b r = decide (areaF (rcT k a c t l b r) (rcL k a c t l b r) (rcD k a c t l b r) (rcR k a c t l b r) < areaF t l b r)) ∧ areaF (rcT k a c t l b r) (rcL k a c t l b r) (rcD k a c t l b r) (rcR k a c t l b r) ≤ areaF t l b r) ∧
    (insF k = true → clF k a c t l b r = false → rcOk k a c t l b r = true ∧ areaF (rcT k a c t l b r) (rcL k a c t l b r) (rcD k a c t l b r) (rcR k a c t l b r) ≥ areaF t l b r) := by
  obtain ⟨h1, h2⟩ := goodR_b h
  obtain ⟨p1, p2, p3⟩ := spAB_b (k := k) h2
  have hb := rightF_b h1
  have hk := okR_b h2
  have hlast : mostF k ≤ 1048576 := (most_b k).2
  have e5 := w64 (x := a + c) (by omega)
  have e8 := w64 (x := spB k b r + c) (by omega)
  have e9 := w64 (x := spA k t l + c) (by omega)
  have hrc := rc_lf h
  have hok := rc_okR h
  cases hn : lfNone k a c (spA k t l) (spB k b r)
  · rw [hn, Bool.not_false] at hrc
    rw [hrc] at hok
    obtain ⟨q1, q2, q3, q4, q5, _⟩ := lf_b h1 p1 p2 p3 hn
    have am : areaF (rcT k a c t l b r) (rcL k a c t l b r) (rcD k a c t l b r) (rcR k a c t l b r) = (rcD k a c t l b r - rcT k a c t l b r + 1) * (rcR k a c t l b r - rcL k a c t l b r + 1) := by simp [areaF, hok, ifB]
    have ao : areaF t l b r = (b - t + 1) * (r - l + 1) := by simp [areaF, h2, ifB]
    rw [am, ao]
    generalize hA : lfA k a c (spA k t l) (spB k b r) = A at q1 q2 q3 q4 q5
    generalize hB : lfB k a c (spA k t l) (spB k b r) = B at q1 q2 q3 q4 q5
    have hT : (rcD k a c t l b r - rcT k a c t l b r + 1) * (rcR k a c t l b r - rcL k a c t l b r + 1) = (B - A + 1) * (if rowsF k then r - l + 1 else b - t + 1) := by
      simp only [rcT, rcL, rcD, rcR, hrc, ifB, if_true, rcA, rcB, hA, hB]
      cases rowsF k
      · simp [Int.mul_comm]
      · simp
    have hO : (b - t + 1) * (r - l + 1) = (spB k b r - spA k t l + 1) * (if rowsF k then r - l + 1 else b - t + 1) := by
      simp only [spA, spB]
      cases rowsF k
      · simp [Int.mul_comm]
      · simp
    rw [hT, hO]
    have hW : 1 ≤ (if rowsF k then r - l + 1 else b - t + 1) := by split <;> omega
    generalize (if rowsF k then r - l + 1 else b - t + 1) = W at hW
    have mlt : ∀ {x y : Int}, x < y → x * W < y * W := fun hxy => Int.mul_lt_mul_of_pos_right hxy (by omega)
    have mle : ∀ {x y : Int}, x ≤ y → x * W ≤ y * W := fun hxy => Int.mul_le_mul_of_nonneg_right hxy (by omega)
    refine ⟨fun hi => ?_, fun hi hc => ?_⟩
    · obtain ⟨r1, r2⟩ := q4 hi
      have ec : clF k a c t l b r = decide (spB k b r ≥ a ∧ spA k t l < a + c) := by simp [clF, h, hi, e5]
      by_cases hcl : spB k b r ≥ a ∧ spA k t l < a + c
      · have := mlt (x := B - A + 1) (y := spB k b r - spA k t l + 1) (by have := r1 hcl; omega)
        refine ⟨?_, by omega⟩
        rw [ec, decide_eq_true hcl, decide_eq_true this]
      · have e : B - A + 1 = spB k b r - spA k t l + 1 := by have := r2 hcl; omega
        rw [e]
        refine ⟨?_, Int.le_refl _⟩
        rw [ec, decide_eq_false hcl, decide_eq_false (by omega)]
    · have hs : stepT k a c (spB k b r) ≠ 2 := by
        intro e
        simp [clF, h, hi, e] at hc
      exact ⟨hrc, mle (by have := q5 hi hs; omega)⟩
  · rw [hn, Bool.not_true] at hrc
    obtain ⟨z1, z2, z3, z4⟩ := rc_none hrc
    have az : areaF (rcT k a c t l b r) (rcL k a c t l b r) (rcD k a c t l b r) (rcR k a c t l b r) = 0 := by rw [z1, z2, z3, z4]; rfl
    have ap := area_pos h2
    rw [az]
    refine ⟨fun hi => ⟨?_, by omega⟩, fun hi hc => ?_⟩
    · rw [decide_eq_true (by omega)]
      simp [lfNone, hi, e5] at hn
      simp [clF, h, hi, e5]
      omega
    · exfalso
      simp only [clF, h, hi, if_true, Bool.true_and, stepT, e8] at hc
      simp only [lfNone, hi, if_true, stepT, e9] at hn
      by_cases d1 : spB k b r < a <;> by_cases d2 : spB k b r + c > mostF k <;> by_cases d3 : spA k t l < a <;> by_cases d4 : spA k t l + c > mostF k <;> simp [d1, d2, d3, d4] at hn hc <;> omega


set_option maxRecDepth 100000 in
theorem vclips_vc (k a c t l b r : Int) {R : AV → Prop} (h : (∀ (n1 n2 : Nat), n1 = n1 ∧ n2 = n2 ∧ n1 = n1 ∧ n2 = n2 ∧ ∀ (n3 : Nat), n3 = n3 ∧ br (ifB (goodR k a c t l b r) 0 2 != 0) (br (!clF k a c t l b r) (br (!rcOk k a c t l b r) (n3 = n3 ∧ br (rcT k a c t l b r == 0 && (rcL k a c t l b r == 0 && (rcD k a c t l b r == 0 && (rcR k a c t l b r == 0 && true)))) (br (ifB (goodR k a c t l b r) 0 2 == ifB (goodR k a c t l b r) 0 2) (R (AV.v (Value.bool true))) (R (AV.v (Value.bool false)))) (R (AV.v (Value.bool false)))) (R (AV.v (Value.bool false)))) (R (AV.v (Value.bool false)))) (br (ifB (goodR k a c t l b r) 0 2 != 0) (br (!clF k a c t l b r) (br (!rcOk k a c t l b r) (n3 = n3 ∧ br (rcT k a c t l b r == 0 && (rcL k a c t l b r == 0 && (rcD k a c t l b r == 0 && (rcR k a c t l b r == 0 && true)))) (br (ifB (goodR k a c t l b r) 0 2 == ifB (goodR k a c t l b r) 0 2) (R (AV.v (Value.bool true))) (R (AV.v (Value.bool false)))) (R (AV.v (Value.bool false)))) (R (AV.v (Value.bool false)))) (R (AV.v (Value.bool false)))) (n2 = n2 ∧ n3 = n3 ∧ n1 = n1 ∧ br (k == 2) (br (clF k a c t l b r == decide (areaF (rcT k a c t l b r) (rcL k a c t l b r) (rcD k a c t l b r) (rcR k a c t l b r) < areaF t l b r)) (br (decide (areaF (rcT k a c t l b r) (rcL k a c t l b r) (rcD k a c t l b r) (rcR k a c t l b r) ≤ areaF t l b r)) (R (AV.v (Value.bool true))) (R (AV.v (Value.bool false)))) (R (AV.v (Value.bool false)))) (n1 = n1 ∧ br (k == 4) (br (clF k a c t l b r == decide (areaF (rcT k a c t l b r) (rcL k a c t l b r) (rcD k a c t l b r) (rcR k a c t l b r) < areaF t l b r)) (br (decide (areaF (rcT k a c t l b r) (rcL k a c t l b r) (rcD k a c t l b r) (rcR k a c t l b r) ≤ areaF t l b r)) (R (AV.v (Value.bool true))) (R (AV.v (Value.bool false)))) (R (AV.v (Value.bool false)))) (br (clF k a c t l b r) (br (rcOk k a c t l b r) (R (AV.v (Value.bool true))) (br (clF k a c t l b r) (R (AV.v (Value.bool true))) (R (AV.v (Value.bool false))))) (br (decide (areaF (rcT k a c t l b r) (rcL k a c t l b r) (rcD k a c t l b r) (rcR k a c t l b r) ≥ areaF t l b r)) (br (rcOk k a c t l b r) (R (AV.v (Value.bool true))) (br (clF k a c t l b r) (R (AV.v (Value.bool true))) (R (AV.v (Value.bool false))))) False))))))) : LC Try.prog 9 [.agg [.v (.int .i64 k), .v (.int .i64 a), .v (.int .i64 c)], .agg [.v (.int .i64 t), .v (.int .i64 l), .v (.int .i64 b), .v (.int .i64 r)]] [] (fun z_ _ => R z_) :=
  lc_of_exec (tbl := tb14) tab_ok tb14_ok mixed noinv _ Try.func9 rfl Try.ntmps9 (by decide) (by kernel_rfl) (Nat.le_of_ble_eq_true rfl) (Eq.mpr (by kernel_rfl : exec tab tb14 noinv 0 (body Try.f9) (argsT [.agg [.v (.int .i64 k), .v (.int .i64 a), .v (.int .i64 c)], .agg [.v (.int .i64 t), .v (.int .i64 l), .v (.int .i64 b), .v (.int .i64 r)]] 0) [] (post Try.f9 tab (fun z_ _ => R z_)) = (∀ (n1 n2 : Nat), n1 = n1 ∧ n2 = n2 ∧ n1 = n1 ∧ n2 = n2 ∧ ∀ (n3 : Nat), n3 = n3 ∧ br (ifB (goodR k a c t l b r) 0 2 != 0) (br (!clF k a c t l b r) (br (!rcOk k a c t l b r) (n3 = n3 ∧ br (rcT k a c t l b r == 0 && (rcL k a c t l b r == 0 && (rcD k a c t l b r == 0 && (rcR k a c t l b r == 0 && true)))) (br (ifB (goodR k a c t l b r) 0 2 == ifB (goodR k a c t l b r) 0 2) (R (AV.v (Value.bool true))) (R (AV.v (Value.bool false)))) (R (AV.v (Value.bool false)))) (R (AV.v (Value.bool false)))) (R (AV.v (Value.bool false)))) (br (ifB (goodR k a c t l b r) 0 2 != 0) (br (!clF k a c t l b r) (br (!rcOk k a c t l b r) (n3 = n3 ∧ br (rcT k a c t l b r == 0 && (rcL k a c t l b r == 0 && (rcD k a c t l b r == 0 && (rcR k a c t l b r == 0 && true)))) (br (ifB (goodR k a c t l b r) 0 2 == ifB (goodR k a c t l b r) 0 2) (R (AV.v (Value.bool true))) (R (AV.v (Value.bool false)))) (R (AV.v (Value.bool false)))) (R (AV.v (Value.bool false)))) (R (AV.v (Value.bool false)))) (n2 = n2 ∧ n3 = n3 ∧ n1 = n1 ∧ br (k == 2) (br (clF k a c t l b r == decide (areaF (rcT k a c t l b r) (rcL k a c t l b r) (rcD k a c t l b r) (rcR k a c t l b r) < areaF t l b r)) (br (decide (areaF (rcT k a c t l b r) (rcL k a c t l b r) (rcD k a c t l b r) (rcR k a c t l b r) ≤ areaF t l b r)) (R (AV.v (Value.bool true))) (R (AV.v (Value.bool false)))) (R (AV.v (Value.bool false)))) (n1 = n1 ∧ br (k == 4) (br (clF k a c t l b r == decide (areaF (rcT k a c t l b r) (rcL k a c t l b r) (rcD k a c t l b r) (rcR k a c t l b r) < areaF t l b r)) (br (decide (areaF (rcT k a c t l b r) (rcL k a c t l b r) (rcD k a c t l b r) (rcR k a c t l b r) ≤ areaF t l b r)) (R (AV.v (Value.bool true))) (R (AV.v (Value.bool false)))) (R (AV.v (Value.bool false)))) (br (clF k a c t l b r) (br (rcOk k a c t l b r) (R (AV.v (Value.bool true))) (br (clF k a c t l b r) (R (AV.v (Value.bool true))) (R (AV.v (Value.bool false))))) (br (decide (areaF (rcT k a c t l b r) (rcL k a c t l b r) (rcD k a c t l b r) (rcR k a c t l b r) ≥ areaF t l b r)) (br (rcOk k a c t l b r) (R (AV.v (Value.bool true))) (br (clF k a c t l b r) (R (AV.v (Value.bool true))) (R (AV.v (Value.bool false))))) False))))))) h)


theorem clips_law (k a c t l b r : Int) : LC Try.prog 9 [.agg [.v (.int .i64 k), .v (.int .i64 a), .v (.int .i64 c)], .agg [.v (.int .i64 t), .v (.int .i64 l), .v (.int .i64 b), .v (.int .i64 r)]] [] (fun z _ => z = .v (.bool true)) :=
  vclips_vc k a c t l b r (by
    simp only [ifB_02, ifB_00]
    cases h : goodR k a c t l b r
    · have hc : clF k a c t l b r = false := by simp [clF, h]
      have ho : rcOk k a c t l b r = false := by simp [rcOk, h]
      obtain ⟨z1, z2, z3, z4⟩ := rc_none ho
      simp [br_iff, hc, ho, z1, z2, z3, z4]
    · obtain ⟨A1, A2⟩ := clips_area h
      have hb := rightF_b (goodR_b h).1
      have hk : k = 1 ∨ k = 2 ∨ k = 3 ∨ k = 4 := by omega
      rcases hk with rfl | rfl | rfl | rfl
      · have A2 := A2 (by decide)
        cases hc : clF 1 a c t l b r
        · obtain ⟨x1, x2⟩ := A2 hc
          simp [br_iff, x1]
          omega
        · cases ho : rcOk 1 a c t l b r <;> simp [br_iff]
      · obtain ⟨x1, x2⟩ := A1 (by decide)
        simp only [← x1]
        simp [br_iff, x2]
      · have A2 := A2 (by decide)
        cases hc : clF 3 a c t l b r
        · obtain ⟨x1, x2⟩ := A2 hc
          simp [br_iff, x1]
          omega
        · cases ho : rcOk 3 a c t l b r <;> simp [br_iff]
      · obtain ⟨x1, x2⟩ := A1 (by decide)
        simp only [← x1]
        simp [br_iff, x2])
end Go.Proofs.Ytbdifnmadaggaaa

