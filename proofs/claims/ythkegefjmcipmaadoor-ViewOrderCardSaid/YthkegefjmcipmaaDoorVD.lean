/- View: the plain form: widths. -/
import Derived.Test.YthkegefjmcipmaaDoorVB
namespace Go.Eng
open Go Go.Sp Go.Proofs.YthkegefjmcipmaaDoor

theorem badV_zero {t l b r most : Int} (h : badV t l b r most = 0) : okR t l b r = true ∧ 1 ≤ most ∧ most ≤ 60 ∧ (b - t + 1) * (r - l + 1) ≤ 4096 := by
  unfold badV at h
  by_cases h1 : okR t l b r = false ∨ most < 1 ∨ most > 60
  · rw [if_pos h1] at h; omega
  · rw [if_neg h1] at h
    simp only [not_or, Bool.not_eq_false] at h1
    by_cases h2 : areaF t l b r > 4096
    · rw [if_pos h2] at h; omega
    · rw [areaF, ifB, if_pos h1.1] at h2
      exact ⟨h1.1, by omega, by omega, by omega⟩

/-- Widths, as a handler. -/
def rwdH : Handler := fun _ args H K =>
  match args with
  | [.agg [.v (.int .i64 t), .v (.int .i64 lf), .v (.int .i64 b), .v (.int .i64 rt)], .os i _ n o 0 4 k _, .v (.int .i64 most)] => ∃ (l : List Dw) (S : List Nat) (wr : Option (Nat × TypeId)) (w : Bool), nth H i = some ⟨n, .dl Dw dwD o l S wr none, w⟩ ∧ k = l.length ∧ l.length ≤ 1048576 ∧
      (∀ e, e = badV t lf b rt most → e ≠ 0 → K (.ret (.tup [.v (.slice none 0 0), .v (.int .i64 e)])) H) ∧
      (badV t lf b rt most = 0 → ∀ (a : Option Addr) (n c : Nat) (S' : List Nat), K (.ret (.tup [.os H.length a n 0 0 1 (rt - lf + 1).toNat c, .v (.int .i64 0)])) (H ++ [rD intD n 0 (wsL l most t (b - t + 1).toNat lf (rt - lf + 1).toNat) S' true]))
  | _ => False
end Go.Eng
namespace Go.Proofs.YthkegefjmcipmaaDoor
open Go Go.Eng Go.Sp
set_option linter.unusedVariables false
set_option linter.unusedSimpArgs false

set_option maxHeartbeats 1000000 in
theorem rwd_lc (t lf b rt : Int) (l : List Dw) (a : Option Addr) (n o cap : Nat) (S : List Nat) (most : Int) (hl : l.length ≤ 1048576) :
    LC Tryd.prog 20 [.agg [.v (.int .i64 t), .v (.int .i64 lf), .v (.int .i64 b), .v (.int .i64 rt)], .os 0 a n o 0 4 l.length cap, .v (.int .i64 most)] [rD dwD n o l S false] (fun z H' =>
      (badV t lf b rt most ≠ 0 ∧ z = .tup [.v (.slice none 0 0), .v (.int .i64 (badV t lf b rt most))]) ∨
      (badV t lf b rt most = 0 ∧ ∃ (a : Option Addr) (n c : Nat) (S' : List Nat), z.den = (AV.tup [.os 0 a n 0 0 1 (rt - lf + 1).toNat c, .v (.int .i64 0)]).den ∧ LeH H' [rD intD n 0 (wsL l most t (b - t + 1).toNat lf (rt - lf + 1).toNat) S' true])) :=
  rwd_vc t lf b rt l a n o cap S most (by
    simp only [true_and, and_true, Int.toNat_natCast, Nat.zero_add, Nat.le_refl]
    intro n1
    have bad2 : (okR t lf b rt = false ∨ most < 1 ∨ most > 60) → badV t lf b rt most = 2 := fun h => by rw [badV, if_pos h]
    refine br_intro (fun h => .inl ?_) (fun h1 => br_intro (fun h => .inl ?_) (fun h2 => br_intro (fun h => .inl ?_) (fun h3 => br_intro (fun h => .inl ?_) (fun h4 => ?_))))
    · rw [bad2 (.inl (by simpa using h))]; exact ⟨by decide, rfl⟩
    · rw [bad2 (.inr (.inl (of_decide_eq_true h)))]; exact ⟨by decide, rfl⟩
    · rw [bad2 (.inr (.inr (of_decide_eq_true h)))]; exact ⟨by decide, rfl⟩
    · have e : badV t lf b rt most = 7 := by
        rw [badV, if_neg (by simp only [not_or]; exact ⟨by simpa using h1, of_decide_eq_false h2, of_decide_eq_false h3⟩), if_pos (of_decide_eq_true h)]
      rw [e]; exact ⟨by decide, rfl⟩
    · have e : badV t lf b rt most = 0 := by
        rw [badV, if_neg (by simp only [not_or]; exact ⟨by simpa using h1, of_decide_eq_false h2, of_decide_eq_false h3⟩), if_neg (of_decide_eq_false h4)]
      obtain ⟨g1, g2, g3, g4⟩ := badV_zero e
      obtain ⟨r1, r2, r3, r4, r5, r6⟩ := okR_b g1
      have s3 := fun c => strL_size c
      refine ⟨⟨⟨0, none, 0, 0, []⟩, ⟨Nat.zero_le _, fun _ => .inl rfl, Nat.le_refl _⟩, ⟨by simp, rfl⟩, LeH.more (b := wD intD 0 [] [] 0 3) rfl fun w => dl_nil intD_ok (.inr ⟨_, rfl, rfl⟩)⟩, fun x hx => ?_⟩
      obtain ⟨x1, x2, x3⟩ := hx
      refine br_intro (fun hlt => ?_) (fun hge => ?_)
      · have hlt := of_decide_eq_true hlt
        have xm : x.i < (rt - lf + 1).toNat := by omega
        refine ⟨⟨0, Nat.zero_le _, ⟨by simp, rfl⟩, LeH.refl _⟩, fun j hj => br_intro (fun hjl => ?_) (fun hjg => ?_)⟩
        · have hjl := of_decide_eq_true hjl
          have cb := colW_b l most t j (lf + (x.i : Int)) ⟨g2, g3⟩
          refine ⟨l, S, none, false, rfl, rfl, hl, j + 1, by omega, by omega, ⟨by rw [w64 (by omega)]; simp only [AV.den]; congr 1; omega, ?_⟩, LeH.refl _⟩
          rw [colW_one]
          simp only [AV.den]
          congr 1
          repeat' split
          all_goals omega
        · have hjg : j = (b - t + 1).toNat := by have := of_decide_eq_false hjg; omega
          have wl := wsL_len l most t (b - t + 1).toNat lf x.i
          intro n6
          refine ⟨by omega, x2, x3, ⟨by omega, by omega⟩, fun a' n8 n9 S' k1 k2 => ⟨⟨x.i + 1, a', n8, n9, S'⟩, ⟨xm, k2, k1⟩, by show _ - (x.i + 1) < _; omega, ⟨by rw [w64 (by omega)]; simp only [AV.den]; congr 1; omega, rfl⟩, ?_⟩⟩
          refine leAt [0, 1, 2] (by decide) ⟨LeB.refl _, LeB.refl _, ?_, trivial⟩
          have e2 : List.take x.i (wsL l most t (b - t + 1).toNat lf x.i) ++ [colW l most t j (lf + (x.i : Int))] = wsL l most t (b - t + 1).toNat lf (x.i + 1) := by
            rw [wsL_one, List.take_of_length_le (by omega), hjg]
          rw [e2]
          exact LeB.refl _
      · have hge : x.i = (rt - lf + 1).toNat := by have := of_decide_eq_false hge; omega
        rw [hge]
        exact .inr ⟨e, x.a, x.n, x.cap, x.S, rfl, leAt [2] (by decide) ⟨LeB.dl (fun h => h) (.inl rfl), trivial⟩⟩)

theorem rwd_ok : HOk Tryd.prog 20 rwdH := HOk.of_make (enters_of (c := body Tryd.f20) Tryd.func20 rfl (by kernel_rfl)) fun rs args H K hk => by
  unfold rwdH at hk
  split at hk
  · rename_i t lf b rt i a n o k cap most
    obtain ⟨l, S, wr, w, h1, rfl, h2, hk1, hk2⟩ := hk
    refine ⟨[rD dwD n o l S false], [.agg [.v (.int .i64 t), .v (.int .i64 lf), .v (.int .i64 b), .v (.int .i64 rt)], .os 0 a n o 0 4 l.length cap, .v (.int .i64 most)], _, leAt (H := H) [i] (by simp) ?_, fun b hb => by cases List.mem_singleton.1 hb; rfl, rfl, rwd_lc t lf b rt l a n o cap S most h2, fun z H' hz => ?_⟩
    · simp only [pickH, h1]
      exact ⟨LeB.dl (fun h => (by cases h)) (.inl rfl), trivial⟩
    · rcases hz with ⟨e, rfl⟩ | ⟨e, a, n, c, S', e2, e3⟩
      · exact ⟨_, [], rfl, leAt [] List.nodup_nil trivial, fun b hb => (by cases hb), by rw [List.append_nil]; exact hk1 _ rfl e⟩
      · exact ⟨.tup [.os H.length a n 0 0 1 (rt - lf + 1).toNat c, .v (.int .i64 0)], [rD intD n 0 (wsL l most t (b - t + 1).toNat lf (rt - lf + 1).toNat) S' true], by rw [e2]; rfl, e3, fun b hb => by cases List.mem_singleton.1 hb; rfl, hk2 e a n c S'⟩
  · cases hk

end Go.Proofs.YthkegefjmcipmaaDoor

