/- Span: the law of heights. -/
import Derived.Test.YtjnehpljhnlbfaaS2
namespace Go.Eng
open Go Go.Sp Go.Proofs.Ytjnehpljhnlbfaa

theorem lg_half {n : Nat} (h : 0 < n) : lgN n = lgN (n / 2) + 1 := by
  unfold lgN
  rw [if_neg (by omega)]
  by_cases h2 : 2 ≤ n
  · rw [if_neg (by omega), Nat.log2_def, if_pos h2]
  · obtain rfl : n = 1 := by omega
    rfl
theorem lg_small {n : Nat} (h : n ≤ 1000000) : lgN n ≤ 20 := by
  unfold lgN
  split
  · omega
  · have : n.log2 < 20 := (Nat.log2_lt (by omega)).2 (by omega)
    omega

theorem avl_low {t : PT} (hw : t.wf) (ha : t.avl) : t.ht ≤ 2 + 2 * (lgN t.sz : Int) := by
  have h := avl_pow hw ha
  have hz := (wf_ht hw).1
  have h2 : t.sz + 1 ≤ 2 ^ lgN t.sz := by
    unfold lgN
    split
    · rename_i e; rw [e]; decide
    · exact Nat.lt_log2_self
  have h3 : t.ht.toNat / 2 ≤ lgN t.sz := (Nat.pow_le_pow_iff_right (by decide)).1 (Nat.le_trans h h2)
  omega

end Go.Eng
namespace Go.Proofs.Ytjnehpljhnlbfaa
open Go Go.Eng Go.Sp
set_option linter.unusedVariables false
set_option linter.unusedSimpArgs false

theorem tal_lc (N : Nat) (hN : N ≤ 1000000) : LC Try.prog 30 [.v (.int .i64 (N : Int))] [] (fun z _ => z = .v (.int .i64 (2 + 2 * (lgN N : Int)))) :=
  tal_vc N (by
    simp only [true_and, and_true]
    have hs := lg_small hN
    refine ⟨⟨N, ⟨Nat.le_refl _, Nat.le_refl _⟩, ⟨rfl, by simp only [AV.den]; congr 1; omega⟩, LeH.refl _⟩, fun m hm => br_intro (fun h => ?_) (fun h => ?_)⟩
    · have h := of_decide_eq_true h
      have e := lg_half (n := m) (by omega)
      have e2 : ((m : Int)).tdiv 2 = ((m / 2 : Nat) : Int) := by rw [Int.tdiv_eq_ediv_of_nonneg (by omega)]; omega
      refine ⟨by decide, m / 2, ⟨by omega, by omega⟩, by omega, ⟨by rw [e2, w64 (by omega)], by rw [w64 (by omega)]; simp only [AV.den]; congr 1; omega⟩, LeH.refl _⟩
    · have h := of_decide_eq_false h
      obtain rfl : m = 0 := by omega
      have : lgN 0 = 0 := rfl
      rw [this]
      simp)

theorem tall_ok : PrOk Try.prog 30 tallP := PrOk.of_lc (enters_of (c := body Try.f30) Try.func30 rfl (by kernel_rfl)) (by
  intro args p h hp
  unfold tallP at h
  split at h
  · rename_i n
    cases h
    obtain ⟨N, rfl⟩ : ∃ N : Nat, n = (N : Int) := ⟨n.toNat, by have := hp.1; omega⟩
    exact tal_lc N (by have := hp.2; omega)
  · cases h)

theorem tbTa_ok : TblOk Try.prog tbTa := ⟨lives_ok, newS_ok, addS_ok, dropS_ok, count_ok, height_ok, tall_ok, trivial⟩

end Go.Proofs.Ytjnehpljhnlbfaa

