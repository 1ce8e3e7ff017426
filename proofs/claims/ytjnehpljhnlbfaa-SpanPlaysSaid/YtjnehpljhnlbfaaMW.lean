import Derived.Test.YtjnehpljhnlbfaaMV
namespace Go.Proofs.Ytjnehpljhnlbfaa
open Go Go.Eng
set_option linter.unusedVariables false
set_option linter.unusedSimpArgs false
theorem most_b (k : Int) : 16384 ≤ mostF k ∧ mostF k ≤ 1048576 := by unfold mostF; split <;> omega
theorem stepT_eq {k a c n : Int} (h : rightF k a c = true) (h1 : 1 ≤ n) (h2 : n ≤ 1048576) : stepT k a c n = lnT k a c n := by
  have hb := rightF_b h
  unfold stepT lnT
  rw [w64 (x := n + c) (by omega), w64 (x := n - c) (by omega), w64 (x := a + c) (by omega)]
  repeat' split
  all_goals first | rfl | omega
theorem goodR_b {k a c t l b r : Int} (h : goodR k a c t l b r = true) : rightF k a c = true ∧ okR t l b r = true := by simpa [goodR] using h
theorem spAB_b {k t l b r : Int} (h : okR t l b r = true) : 1 ≤ spA k t l ∧ spA k t l ≤ spB k b r ∧ spB k b r ≤ mostF k := by
  have := okR_b h
  unfold spA spB mostF
  split <;> omega
theorem lf_en {k a c f l : Int} (h : rightF k a c = true) (hf : 1 ≤ f) (hfl : f ≤ l) (hl : l ≤ mostF k) :
    enOk k a c f l = !lfNone k a c f l ∧ (lfNone k a c f l = true → lfA k a c f l = 0 ∧ lfB k a c f l = 0) ∧
      (lfNone k a c f l = false → enA k a c f l = lfA k a c f l ∧ enB k a c f l = lfB k a c f l ∧ 1 ≤ lfA k a c f l) := by
  have hb := rightF_b h
  have e1 := w64 (x := f + c) (by omega)
  have e2 := w64 (x := f - c) (by omega)
  have e3 := w64 (x := l + c) (by omega)
  have e4 := w64 (x := l - c) (by omega)
  have e5 := w64 (x := a + c) (by omega)
  have e6 := w64 (x := a - 1) (by omega)
  have e7 := w64 (x := a + c + c) (by omega)
  have e8 := w64 (x := a + c - c) (by omega)
  cases hi : insF k
  · simp only [enOk, lfNone, lfA, lfB, enA, enB, lnN, lnT, stepN, stepT, dn, ifB, hi, e1, e2, e3, e4, e5, e6, e7, e8]
    by_cases c1 : f < a <;> by_cases c2 : l < a <;> by_cases c3 : f < a + c <;> by_cases c4 : l < a + c <;> (first | (exfalso; omega) | skip)
    all_goals simp [c1, c2, c3, c4]
    all_goals omega
  · simp only [enOk, lfNone, lfA, lfB, enA, enB, lnN, lnT, stepN, stepT, dn, ifB, hi, e1, e2, e3, e4, e5, e6, e7, e8]
    by_cases c1 : f < a <;> by_cases c2 : l < a <;> by_cases c3 : f + c > mostF k <;> by_cases c4 : l + c > mostF k <;> by_cases c5 : a + c > mostF k <;> (first | (exfalso; omega) | skip)
    all_goals simp [c1, c2, c3, c4, c5]
    all_goals omega
theorem rc_eq (k a c t l b r : Int) : rcOk k a c t l b r = rrOk k a c t l b r ∧ rcT k a c t l b r = rrT k a c t l b r ∧ rcL k a c t l b r = rrL k a c t l b r ∧ rcD k a c t l b r = rrD k a c t l b r ∧ rcR k a c t l b r = rrR k a c t l b r := by
  unfold rcOk rrOk rcT rrT rcL rrL rcD rrD rcR rrR
  unfold rcOk rrOk
  cases h : goodR k a c t l b r
  · simp [ifB]
  · obtain ⟨h1, h2⟩ := goodR_b h
    obtain ⟨p1, p2, p3⟩ := spAB_b (k := k) h2
    obtain ⟨q1, q2, q3⟩ := lf_en h1 p1 p2 p3
    simp only [rcA, rcB, q1, Bool.true_and]
    cases hn : lfNone k a c (spA k t l) (spB k b r)
    · obtain ⟨s1, s2, s3⟩ := q3 hn
      have s4 : ¬ lfA k a c (spA k t l) (spB k b r) = 0 := by omega
      by_cases hr : rowsF k = true
      · simp only [spA, spB, hr, if_true] at s1 s2 s4 ⊢
        simp [ifB, s1, s2, s4]
      · simp [spA, spB, hr] at s1 s2 s4
        simp [ifB, spA, spB, hr, s1, s2, s4]
    · obtain ⟨s1, s2⟩ := q2 hn
      simp [s1, s2, ifB]
theorem back_k {k : Int} (h1 : 1 ≤ k) (h2 : k ≤ 4) : backK (backK k) = k ∧ rowsF (backK k) = rowsF k ∧ insF (backK k) = !insF k ∧ 1 ≤ backK k ∧ backK k ≤ 4 := by
  have hk : k = 1 ∨ k = 2 ∨ k = 3 ∨ k = 4 := by omega
  rcases hk with rfl | rfl | rfl | rfl <;> decide
theorem back_right {k a c : Int} (h : rightF k a c = true) : rightF (backK k) a c = true := by
  have hb := rightF_b h
  obtain ⟨_, e, _, h1, h2⟩ := back_k (k := k) (by omega) (by omega)
  have em : mostF (backK k) = mostF k := by simp [mostF, e]
  simp only [rightF, decide_eq_true_eq] at h ⊢
  rw [em]
  exact ⟨h1, h2, h.2.2⟩
theorem step_back {k a c n : Int} (h : rightF k a c = true) (h1 : 1 ≤ n) (h2 : n ≤ mostF k) (hs : stepT k a c n = 0) :
    1 ≤ stepN k a c n ∧ stepN k a c n ≤ mostF k ∧ stepT (backK k) a c (stepN k a c n) = 0 ∧ stepN (backK k) a c (stepN k a c n) = n := by
  have hb := rightF_b h
  obtain ⟨_, e, ei, _, _⟩ := back_k (k := k) (by omega) (by omega)
  have em : mostF (backK k) = mostF k := by simp [mostF, e]
  have e1 := w64 (x := n + c) (by omega)
  have e2 := w64 (x := n - c) (by omega)
  have e3 := w64 (x := n + c - c) (by omega)
  have e4 := w64 (x := n - c + c) (by omega)
  have e0 := w64 (x := n) (by omega)
  cases hi : insF k
  · simp only [stepT, stepN, hi, ei, em, e1, e2, e3, e4] at hs ⊢
    by_cases c1 : n < a <;> by_cases c2 : n - c < a <;> simp [c1, c2, e0, e1, e2, e3, e4] at hs ⊢ <;> omega
  · simp only [stepT, stepN, hi, ei, em, e1, e2, e3, e4] at hs ⊢
    by_cases c1 : n < a <;> by_cases c2 : n + c > mostF k <;> by_cases c3 : n + c < a <;> simp [c1, c2, c3, e0, e1, e2, e3, e4] at hs ⊢ <;> omega
theorem step_mono {k a c n m : Int} (h : rightF k a c = true) (h1 : 1 ≤ n) (h2 : n ≤ 1048576) (g1 : 1 ≤ m) (g2 : m ≤ 1048576) (hn : stepT k a c n = 0) (hm : stepT k a c m = 0) :
    (n < m ↔ stepN k a c n < stepN k a c m) ∧ (n = m ↔ stepN k a c n = stepN k a c m) := by
  have hb := rightF_b h
  have e1 := w64 (x := n + c) (by omega)
  have e2 := w64 (x := n - c) (by omega)
  have e3 := w64 (x := m + c) (by omega)
  have e4 := w64 (x := m - c) (by omega)
  simp only [stepT, stepN, e1, e2, e3, e4] at hn hm ⊢
  cases hi : insF k <;> simp only [hi] at hn hm ⊢
  · by_cases c1 : n < a <;> by_cases c2 : m < a <;> by_cases c3 : n - c < a <;> by_cases c4 : m - c < a <;> simp [c1, c2, c3, c4] at hn hm ⊢ <;> omega
  · by_cases c1 : n < a <;> by_cases c2 : m < a <;> simp [c1, c2] at hn hm ⊢ <;> omega
theorem ifB_02 (c : Bool) : (ifB c 0 2 != 0) = !c := by cases c <;> rfl
theorem ifB_00 (c : Bool) : (ifB c 0 2 == 0) = c := by cases c <;> rfl
theorem lf_b {k a c f l : Int} (h : rightF k a c = true) (hf : 1 ≤ f) (hfl : f ≤ l) (hl : l ≤ mostF k) (hn : lfNone k a c f l = false) :
    1 ≤ lfA k a c f l ∧ lfA k a c f l ≤ lfB k a c f l ∧ lfB k a c f l ≤ mostF k ∧
    (insF k = false → (l ≥ a ∧ f < a + c → lfB k a c f l - lfA k a c f l < l - f) ∧ (¬(l ≥ a ∧ f < a + c) → lfB k a c f l - lfA k a c f l = l - f)) ∧
    (insF k = true → stepT k a c l ≠ 2 → lfB k a c f l - lfA k a c f l ≥ l - f) ∧
    ∀ n, 1 ≤ n → n ≤ mostF k → stepT k a c n = 0 → ((f ≤ n ∧ n ≤ l) ↔ lfA k a c f l ≤ stepN k a c n ∧ stepN k a c n ≤ lfB k a c f l) := by
  have hb := rightF_b h
  have e1 := w64 (x := f + c) (by omega)
  have e2 := w64 (x := f - c) (by omega)
  have e3 := w64 (x := l + c) (by omega)
  have e4 := w64 (x := l - c) (by omega)
  have e5 := w64 (x := a + c) (by omega)
  have e6 := w64 (x := a - 1) (by omega)
  cases hi : insF k
  · simp only [lfNone, lfA, lfB, stepN, stepT, dn, hi, e1, e2, e3, e4, e5, e6] at hn ⊢
    by_cases c1 : f < a <;> by_cases c2 : l < a <;> by_cases c3 : f < a + c <;> by_cases c4 : l < a + c <;> (first | (exfalso; omega) | skip)
    all_goals simp [c1, c2, c3, c4] at hn ⊢
    all_goals (try omega)
    all_goals
      refine ⟨by omega, by omega, by omega, by omega, fun n n1 n2 n3 => ?_⟩
      have e7 := w64 (x := n - c) (by omega)
      rw [e7] at n3
      rw [e7]
      by_cases d1 : n < a <;> by_cases d2 : n - c < a <;> simp [d1, d2] at n3 ⊢ <;> omega
  · simp only [lfNone, lfA, lfB, stepN, stepT, dn, hi, e1, e2, e3, e4, e5, e6] at hn ⊢
    by_cases c1 : f < a <;> by_cases c2 : l < a <;> by_cases c3 : f + c > mostF k <;> by_cases c4 : l + c > mostF k <;> by_cases c5 : a + c > mostF k <;> (first | (exfalso; omega) | skip)
    all_goals simp [c1, c2, c3, c4, c5] at hn ⊢
    all_goals (try omega)
    all_goals (repeat' apply And.intro)
    all_goals (try omega)
    all_goals
      intro n n1 n2 n3
      have e7 := w64 (x := n + c) (by omega)
      rw [e7] at n3
      rw [e7]
      by_cases d1 : n < a <;> by_cases d2 : n + c > mostF k <;> simp [d1, d2] at n3 ⊢ <;> omega
theorem rc_none {k a c t l b r : Int} (h : rcOk k a c t l b r = false) : rcT k a c t l b r = 0 ∧ rcL k a c t l b r = 0 ∧ rcD k a c t l b r = 0 ∧ rcR k a c t l b r = 0 := by
  simp [rcT, rcL, rcD, rcR, h, ifB]
theorem rc_lf {k a c t l b r : Int} (h : goodR k a c t l b r = true) : rcOk k a c t l b r = !lfNone k a c (spA k t l) (spB k b r) := by
  obtain ⟨h1, h2⟩ := goodR_b h
  obtain ⟨p1, p2, p3⟩ := spAB_b (k := k) h2
  obtain ⟨q1, q2, q3⟩ := lf_en h1 p1 p2 p3
  rw [(rc_eq k a c t l b r).1]
  simp [rrOk, h, q1]
theorem rc_okR {k a c t l b r : Int} (h : goodR k a c t l b r = true) : okR (rcT k a c t l b r) (rcL k a c t l b r) (rcD k a c t l b r) (rcR k a c t l b r) = rcOk k a c t l b r := by
  cases ho : rcOk k a c t l b r
  · obtain ⟨e1, e2, e3, e4⟩ := rc_none ho
    rw [e1, e2, e3, e4]
    rfl
  · have hn := rc_lf h
    rw [ho] at hn
    obtain ⟨h1, h2⟩ := goodR_b h
    obtain ⟨p1, p2, p3⟩ := spAB_b (k := k) h2
    obtain ⟨q1, q2, q3, _⟩ := lf_b h1 p1 p2 p3 (by simpa using hn)
    have hb := okR_b h2
    rw [okR_iff]
    simp only [rcT, rcL, rcD, rcR, ho, ifB, rcA, rcB]
    by_cases hw : rowsF k = true
    · simp only [hw, if_true, mostF] at q3 ⊢
      omega
    · have hw : rowsF k = false := by simpa using hw
      simp only [hw, mostF] at q3 ⊢
      simp at q3 ⊢
      omega
end Go.Proofs.Ytjnehpljhnlbfaa
