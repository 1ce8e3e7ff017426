/- Undo: what was done, and is taken back, as lists: the handlers. -/
import Derived.Test.YtkjnkepdhbpnbaaQ
import Derived.Test.YtkjnkepdhbpnbaaY8
namespace Go.Eng
open Go.Sp

/-- What was done. -/
def HS.doneL (s : HS) : List Int := (List.range s.at_).map s.g
/-- What is taken back. -/
def HS.undoneL (s : HS) : List Int := (List.range (s.len - s.at_)).map fun k => s.g (s.at_ + k)

@[simp] theorem HS.doneL_len (s : HS) : s.doneL.length = s.at_ := by simp [HS.doneL]
@[simp] theorem HS.undoneL_len (s : HS) : s.undoneL.length = s.len - s.at_ := by simp [HS.undoneL]
theorem HS.doneL_at (s : HS) {i : Nat} (h : i < s.at_) : atI s.doneL i = s.g i := by
  rw [atI_get (by simpa using h)]; simp [HS.doneL]
theorem HS.undoneL_at (s : HS) {i : Nat} (h : i < s.len - s.at_) : atI s.undoneL i = s.g (s.at_ + i) := by
  rw [atI_get (by simpa using h)]; simp [HS.undoneL]

def doneO : Handler := fun _ args H K =>
  match args with
  | [.ptr id n 0] => ∃ (s : HS) (S : List Nat), n = s.hn ∧ nth H id = some (hH s S) ∧ s.ok ∧ ∀ S' a n1 c1 S1, K (.ret (.os H.length a n1 0 0 1 s.doneL.length c1)) (H.set id (hH s S') ++ [lI n1 s.doneL S1 true])
  | _ => False

def undoneO : Handler := fun _ args H K =>
  match args with
  | [.ptr id n 0] => ∃ (s : HS) (S : List Nat), n = s.hn ∧ nth H id = some (hH s S) ∧ s.ok ∧ ∀ S' a n1 c1 S1, K (.ret (.os H.length a n1 0 0 1 s.undoneL.length c1)) (H.set id (hH s S') ++ [lI n1 s.undoneL S1 true])
  | _ => False
end Go.Eng
namespace Go.Proofs.Ytkjnkepdhbpnbaa
open Go Go.Eng Go.Sp
set_option linter.unusedVariables false
set_option linter.unusedSimpArgs false

theorem doneO_ok : HOk Try.prog 11 doneO := hist_ok (enters_of (c := body Try.f11) Try.func11 rfl (by kernel_rfl)) fun rs args H K hk => by
  unfold doneO at hk
  split at hk
  · rename_i id n
    obtain ⟨s, S, rfl, hb, ok, hk⟩ := hk
    have e1 := ok.le
    have e2 := ok.lm
    have e3 := ok.m1
    refine ⟨id, s, S, [.ptr 0 s.hn 0], hb, rfl, fun H0 hc => ?_⟩
    rcases hc with ⟨ha, hl, mn, rfl⟩ | ⟨mn, an, r, cap, N, g, h1, h2, h3, rfl⟩
    · refine dno0_vc s.hn mn s.most s.es s.clock ?_
      simp only [true_and, and_true]
      have hd0 : s.doneL = [] := by rw [HS.doneL, ha]; rfl
      refine ⟨by decide, s, histN s mn, [lI 0 s.doneL [] true], .os H.length none 0 0 0 1 s.doneL.length 0, ?_, .inl ⟨ha, hl, mn, rfl⟩, rfl, by rw [hd0]; rfl, fun S' => hk S' none 0 0 []⟩
      rw [hd0]
      exact LeH.more rfl fun w => lst_nil (.inl rfl)
    · refine dno1_vc s.hn mn an s.most s.at_ s.es s.clock r s.len cap N g ?_
      simp only [true_and, and_true, Int.toNat_natCast, Nat.sub_zero, Nat.zero_add]
      have hc : histC s (histR s mn an r cap N g) := .inr ⟨mn, an, r, cap, N, g, h1, h2, h3, rfl⟩
      refine ⟨⟨by omega, by omega⟩, fun n1 => ⟨by omega, ⟨by omega, by omega⟩, fun a n3 n4 S4 h4 h5 => ?_⟩⟩
      refine ⟨s, histR s mn an r cap N g, [lI n3 s.doneL S4 true], .os H.length a n3 0 0 1 s.doneL.length n4, leAt [0, 1, 2, 4] (by decide) ⟨LeB.refl _, LeB.refl _, LeB.refl _, LeB.ints (by simp) (fun h => h) (.inl rfl) (fun i hi => ?_), trivial⟩, hc, rfl, ?_, fun S' => hk S' a n3 n4 S4⟩
      · simp only [HS.doneL_len] at hi
        rw [HS.doneL_at s hi, if_neg (by omega), if_pos hi, ← h3 i (by omega)]
      · simp [AV.den]
  · cases hk

theorem undoneO_ok : HOk Try.prog 12 undoneO := hist_ok (enters_of (c := body Try.f12) Try.func12 rfl (by kernel_rfl)) fun rs args H K hk => by
  unfold undoneO at hk
  split at hk
  · rename_i id n
    obtain ⟨s, S, rfl, hb, ok, hk⟩ := hk
    have e1 := ok.le
    have e2 := ok.lm
    have e3 := ok.m1
    refine ⟨id, s, S, [.ptr 0 s.hn 0], hb, rfl, fun H0 hc => ?_⟩
    rcases hc with ⟨ha, hl, mn, rfl⟩ | ⟨mn, an, r, cap, N, g, h1, h2, h3, rfl⟩
    · refine uno0_vc s.hn mn s.most s.es s.clock ?_
      simp only [true_and, and_true]
      have hd0 : s.undoneL = [] := by rw [HS.undoneL, hl]; simp
      refine ⟨by decide, by decide, s, histN s mn, [lI 0 s.undoneL [] true], .os H.length none 0 0 0 1 s.undoneL.length 0, ?_, .inl ⟨ha, hl, mn, rfl⟩, rfl, by rw [hd0]; rfl, fun S' => hk S' none 0 0 []⟩
      rw [hd0]
      exact LeH.more rfl fun w => lst_nil (.inl rfl)
    · refine uno1_vc s.hn mn an s.most s.at_ s.es s.clock r s.len cap N g ?_
      simp only [true_and, and_true, Int.toNat_natCast, Nat.sub_zero, Nat.zero_add]
      have hc : histC s (histR s mn an r cap N g) := .inr ⟨mn, an, r, cap, N, g, h1, h2, h3, rfl⟩
      have ho : offB cap s.at_ s.len r + (s.len - s.at_) ≤ N := by
        unfold offB offN
        repeat' split
        all_goals omega
      refine ⟨⟨by omega, by omega⟩, h1, fun n1 => ⟨ho, ⟨by omega, by omega⟩, fun a n3 n4 S4 h4 h5 => ?_⟩⟩
      refine ⟨s, histR s mn an r cap N g, [lI n3 s.undoneL S4 true], .os H.length a n3 0 0 1 s.undoneL.length n4, leAt [0, 1, 2, 4] (by decide) ⟨LeB.refl _, LeB.refl _, LeB.refl _, LeB.ints (by simp) (fun h => h) (.inl rfl) (fun i hi => ?_), trivial⟩, hc, rfl, ?_, fun S' => hk S' a n3 n4 S4⟩
      · simp only [HS.undoneL_len] at hi
        rw [HS.undoneL_at s hi, if_neg (by omega), if_pos hi, ← h3 _ (by omega)]
        have : offB cap s.at_ s.len r = r + s.at_ := by
          unfold offB
          split
          · omega
          · rw [if_pos (by omega)]
        rw [this, Nat.add_assoc]
      · simp [AV.den]
  · cases hk
end Go.Proofs.Ytkjnkepdhbpnbaa

