import Derived.Test.YtjnehpljhnlbfaaE4
namespace Go.Eng
open Go Go.Sp Go.Op Go.Proofs.Ytjnehpljhnlbfaa
theorem lg_half {n : Nat} (h : 0 < n) : lgN n = lgN (n / 2) + 1 := by
  unfold lgN
  rw [if_neg (by omega)]
  by_cases h2 : 2 ≤ n
  · rw [if_neg (by omega), Nat.log2_def, if_pos h2]
  · obtain rfl : n = 1 := by omega
    rfl
theorem lg_small {n : Nat} (h : n ≤ 1000000) : lgN n ≤ 20 := by
  unfold lgN
  split
  · omega
  · have : n.log2 < 20 := (Nat.log2_lt (by omega)).2 (by omega)
    omega
theorem avl_low {t : PT} (hw : t.wf) (ha : t.avl) : t.ht ≤ 2 + 2 * (lgN t.sz : Int) := by
  have h := avl_pow hw ha
  have hz := (wf_ht hw).1
  have h2 : t.sz + 1 ≤ 2 ^ lgN t.sz := by
    unfold lgN
    split
    · rename_i e; rw [e]; decide
    · exact Nat.lt_log2_self
  have h3 : t.ht.toNat / 2 ≤ lgN t.sz := (Nat.pow_le_pow_iff_right (by decide)).1 (Nat.le_trans h h2)
  omega
theorem ht_zero {t : PT} (hw : t.wf) : t.ht = 0 ↔ t.sz = 0 := by
  cases t with
  | leaf => exact ⟨fun _ => rfl, fun _ => rfl⟩
  | node n id q hi la l r =>
    have h1 := (wf_ht hw.2.2.1).1
    have h2 := (wf_ht hw.2.2.2).1
    have h3 := hw.1
    constructor
    · intro h
      have h : hi = 0 := h
      omega
    · intro h
      have h : l.sz + r.sz + 1 = 0 := h
      omega
end Go.Eng
namespace Go.Proofs.Ytjnehpljhnlbfaa
open Go Go.Eng Go.Sp Go.Op
set_option linter.unusedVariables false
set_option linter.unusedSimpArgs false
theorem tal_lc (N : Nat) (hN : N ≤ 1000000) : LC Try.prog 30 [.v (.int .i64 (N : Int))] [] (fun z _ => z = .v (.int .i64 (2 + 2 * (lgN N : Int)))) :=
  tal_vc N (by
    simp only [true_and, and_true]
    have hs := lg_small hN
    refine ⟨⟨N, ⟨Nat.le_refl _, Nat.le_refl _⟩, ⟨rfl, by simp only [AV.den]; congr 1; omega⟩, LeH.refl _⟩, fun m hm => br_intro (fun h => ?_) (fun h => ?_)⟩
    · have h := of_decide_eq_true h
      have e := lg_half (n := m) (by omega)
      have e2 : ((m : Int)).tdiv 2 = ((m / 2 : Nat) : Int) := by rw [Int.tdiv_eq_ediv_of_nonneg (by omega)]; omega
      refine ⟨by decide, m / 2, ⟨by omega, by omega⟩, by omega, ⟨by rw [e2, w64 (by omega)], by rw [w64 (by omega)]; simp only [AV.den]; congr 1; omega⟩, LeH.refl _⟩
    · have h := of_decide_eq_false h
      obtain rfl : m = 0 := by omega
      have : lgN 0 = 0 := rfl
      rw [this]
      simp)
theorem tall_ok : PrOk Try.prog 30 tallP := PrOk.of_lc (enters_of (c := body Try.f30) Try.func30 rfl (by kernel_rfl)) (by
  intro args p h hp
  unfold tallP at h
  split at h
  · rename_i n
    cases h
    obtain ⟨N, rfl⟩ : ∃ N : Nat, n = (N : Int) := ⟨n.toNat, by have := hp.1; omega⟩
    exact tal_lc N (by have := hp.2; omega)
  · cases h)
theorem tbPl_ok : TblOk Try.prog tbPl := ⟨lives_ok, newS_ok, count_ok, stepH_ok, height_ok, tall_ok, trivial⟩
set_option maxHeartbeats 1000000 in
theorem play_law (a : Option Addr) (n o len cap : Nat) (g0 g1 g2 g3 g4 g5 g6 g7 g8 g9 g10 : Nat → Int) (S : List Nat) (hlen : len ≤ 9223372036854775807) :
    LC Try.prog 7 [.os 0 a n o 0 11 len cap] [actB n o len g0 g1 g2 g3 g4 g5 g6 g7 g8 g9 g10 S] (fun z _ => z = .v (.bool true)) :=
  play_vc tbPl_ok a n o len cap g0 g1 g2 g3 g4 g5 g6 g7 g8 g9 g10 S (by
    intro s hs S1 n4
    refine ⟨rfl, br_intro (fun _ => rfl) (fun h100 => ⟨⟨⟨0, s, S1, [], none, 0, 0, []⟩, ⟨Nat.zero_le _, ⟨hs.ok, by rw [hs.is], List.Pairwise.nil⟩, rfl, Nat.le_refl _⟩, ⟨rfl, rfl, rfl, rfl, rfl, trivial⟩, ?_⟩, fun x hx => ?_⟩)⟩
    · refine LeH.trans (LeH.more (b := itB 0 [] [] false) rfl fun w => ⟨itD_ok, fun f fv e => (by cases e), fun k hk => (by cases hk), fun hn => absurd hn (Nat.lt_irrefl _), fun cap t e => (by cases e)⟩) ?_
      exact leAt [0, 1, 2, 3] (by decide) ⟨LeB.refl _, LeB.refl _, LeB.cells rfl (fun h => h), LeB.refl _, trivial⟩
    obtain ⟨hi, hr, hn, hc⟩ := hx
    have h100 := of_decide_eq_false h100
    have hi2 : 0 + (x.i : Int).toNat = x.i := by omega
    refine br_intro (fun hlt => ?_) (fun _ => rfl)
    have hlt := of_decide_eq_true hlt
    have hw : IntKind.i64.wrap ((x.i : Int) + 1) = ((x.i + 1 : Nat) : Int) := by rw [w64 (by omega)]; rfl
    rw [hi2, hw]
    refine ⟨rfl, by omega, rfl, rfl, by omega, ?_, fun n7 => ?_⟩
    · refine ⟨x.s, x.S, x.l, x.Sl, none, false, by rw [hn], hn.symm, rfl, rfl, hc, hr, by decide, fun s' l' a' n16 n17 hr' hn' hc' S' S'' n23 => ?_⟩
      have hl := hr'.len
      have hsz := hr'.ok.sz
      have hlow := avl_low hr'.ok.wf hr'.ok.avl
      have hz := ht_zero hr'.ok.wf
      have few := hr'.few
      refine ⟨rfl, rfl, s', S', by rw [hn'], hn'.symm, rfl, br_intro (fun h => ?_) (fun _ => ⟨rfl, s', S', by rw [hn'], hn'.symm, rfl, rfl, by omega, br_intro (fun h => ?_) (fun _ => ⟨rfl, s', S', by rw [hn'], hn'.symm, rfl, rfl, rfl, br_intro (fun h => ?_) (fun _ => ⟨rfl, rfl, ?_⟩)⟩)⟩)⟩
      · rw [hl] at h; simp at h
      · have h := of_decide_eq_true h
        have e : (l'.length : Int).toNat = s'.t.sz := by omega
        rw [e] at h
        omega
      · by_cases h0 : s'.t.ht = 0
        · have h1 := hz.1 h0
          have h2 : l'.length = 0 := by omega
          rw [h0, h2] at h
          simp at h
        · have h1 : ¬ s'.t.sz = 0 := fun e => h0 (hz.2 e)
          have h2 : (s'.t.ht == 0) = false := by simpa using h0
          have h3 : ((l'.length : Int) == 0) = false := by
            rw [beq_eq_false_iff_ne]
            omega
          rw [h2, h3] at h
          simp at h
      · refine ⟨⟨x.i + 1, s', S', l', a', n16, n17, S''⟩, ⟨by simp only; omega, hr', hn', hc'⟩, by simp only; omega, ⟨rfl, rfl, rfl, rfl, rfl, trivial⟩, ?_⟩
        exact leAt [0, 1, 2, 3] (by decide) ⟨LeB.refl _, LeB.refl _, LeB.cells rfl (fun h => h), LeB.refl _, trivial⟩
    · refine ⟨x.s, x.S, x.l, x.Sl, none, false, by rw [hn], hn.symm, rfl, rfl, hc, hr, by decide, fun s' l' a' n16 n17 hr' hn' hc' S' S'' => ?_⟩
      have hl := hr'.len
      have hsz := hr'.ok.sz
      have hlow := avl_low hr'.ok.wf hr'.ok.avl
      have hz := ht_zero hr'.ok.wf
      have few := hr'.few
      refine ⟨rfl, rfl, s', S', by rw [hn'], hn'.symm, rfl, br_intro (fun h => ?_) (fun _ => ⟨rfl, s', S', by rw [hn'], hn'.symm, rfl, rfl, by omega, br_intro (fun h => ?_) (fun _ => ⟨rfl, s', S', by rw [hn'], hn'.symm, rfl, rfl, rfl, br_intro (fun h => ?_) (fun _ => ⟨rfl, rfl, ?_⟩)⟩)⟩)⟩
      · rw [hl] at h; simp at h
      · have h := of_decide_eq_true h
        have e : (l'.length : Int).toNat = s'.t.sz := by omega
        rw [e] at h
        omega
      · by_cases h0 : s'.t.ht = 0
        · have h1 := hz.1 h0
          have h2 : l'.length = 0 := by omega
          rw [h0, h2] at h
          simp at h
        · have h1 : ¬ s'.t.sz = 0 := fun e => h0 (hz.2 e)
          have h2 : (s'.t.ht == 0) = false := by simpa using h0
          have h3 : ((l'.length : Int) == 0) = false := by
            rw [beq_eq_false_iff_ne]
            omega
          rw [h2, h3] at h
          simp at h
      · refine ⟨⟨x.i + 1, s', S', l', a', n16, n17, S''⟩, ⟨by simp only; omega, hr', hn', hc'⟩, by simp only; omega, ⟨rfl, rfl, rfl, rfl, rfl, trivial⟩, ?_⟩
        exact leAt [0, 1, 2, 3] (by decide) ⟨LeB.refl _, LeB.refl _, LeB.cells rfl (fun h => h), LeB.refl _, trivial⟩)
end Go.Proofs.Ytjnehpljhnlbfaa
