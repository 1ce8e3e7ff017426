/- Undo: all marks, in order, and whether two lists are the same: the handlers. -/
import Derived.Test.YtkjnkepdhbpnbaaAA
import Derived.Test.YtkjnkepdhbpnbaaAC
namespace Go.Proofs.Ytkjnkepdhbpnbaa
open Go Go.Eng Go.Sp
set_option linter.unusedVariables false
set_option linter.unusedSimpArgs false

theorem marks_eq {s : HS} {l : List ByteArray} (hp : l.Perm (s.es.map fun e => e.1.1)) : sortNm s.es l = s.marksL := sortNm_one ((sortNm_perm s.es l).trans hp) (sortNm_sorted s.es l)

theorem marks_len {s : HS} {l : List ByteArray} (hp : l.Perm (s.es.map fun e => e.1.1)) : l.length = s.marksL.length := by
  rw [← marks_eq hp, sortNm_len]

theorem marksO_ok : HOk Try.prog 21 marksO := hist_ok (enters_of (c := body Try.f21) Try.func21 rfl (by kernel_rfl)) fun rs args H K hk => by
  unfold marksO at hk
  split at hk
  · rename_i id n
    obtain ⟨s, S, rfl, hb, ok, few, hk⟩ := hk
    refine ⟨id, s, S, [.ptr 0 s.hn 0], hb, rfl, fun H0 hc => ?_⟩
    rcases hc with ⟨ha, hl, mn, rfl⟩ | ⟨mn, an, r, cap, N, g, h1, h2, h3, rfl⟩
    · refine mks0_vc s.hn mn s.most s.es s.clock ?_
      simp only [true_and, and_true]
      refine fun n1 n2 => ⟨1, mn, s.clock, s.es, true, true, rfl, rfl, by decide, ok.keys, by omega, fun a n10 n11 S4 l hp he => ⟨0, s.hn, 1, mn, s.clock, s.most, 0, .v (.slice none 0 0), s.es, true, true, true, S4, l, rfl, rfl, rfl, rfl, rfl, (by show ([4, 2, 0, 1] : List Nat).Nodup; decide), ok.keys, ?_, ?_⟩⟩
      · rw [hp.length_eq, List.length_map]; omega
      · refine ⟨s, histN s mn, [lS n10 s.marksL S4 true], .os H.length a n10 0 0 1 s.marksL.length n11, leAt [0, 1, 4] (by decide) ⟨LeB.refl _, LeB.refl _, LeB.strs (by rw [marks_len hp]; exact Nat.le_refl _) (fun h => h) (.inl rfl) (fun i _ => by rw [marks_eq hp]), trivial⟩, .inl ⟨ha, hl, mn, rfl⟩, rfl, ?_, fun S' => hk S' a n10 n11 S4⟩
        rw [marks_len hp]; rfl
    · refine mks1_vc s.hn mn an s.most s.at_ s.es s.clock r s.len cap N g ?_
      simp only [true_and, and_true]
      refine fun n1 n2 => ⟨1, mn, s.clock, s.es, true, true, rfl, rfl, by decide, ok.keys, by omega, fun a n10 n11 S4 l hp he => ⟨0, s.hn, 1, mn, s.clock, s.most, (s.at_ : Int), .sl 2 an r 1 s.len cap, s.es, true, true, true, S4, l, rfl, rfl, rfl, rfl, rfl, (by show ([5, 3, 0, 1] : List Nat).Nodup; decide), ok.keys, ?_, ?_⟩⟩
      · rw [hp.length_eq, List.length_map]; omega
      · refine ⟨s, histR s mn an r cap N g, [lS n10 s.marksL S4 true], .os H.length a n10 0 0 1 s.marksL.length n11, leAt [0, 1, 2, 5] (by decide) ⟨LeB.refl _, LeB.refl _, LeB.refl _, LeB.strs (by rw [marks_len hp]; exact Nat.le_refl _) (fun h => h) (.inl rfl) (fun i _ => by rw [marks_eq hp]), trivial⟩, .inr ⟨mn, an, r, cap, N, g, h1, h2, h3, rfl⟩, rfl, ?_, fun S' => hk S' a n10 n11 S4⟩
        rw [marks_len hp]; rfl
  · cases hk

theorem smi_lc (n1 n2 c1 c2 : Nat) (a1 a2 : Option Addr) (l m : List Int) (S1 S2 : List Nat) (hl : l.length ≤ 1048576) : LC Try.prog 17 [.os 0 a1 n1 0 0 1 l.length c1, .os 1 a2 n2 0 0 1 m.length c2] [lI n1 l S1 false, lI n2 m S2 false] (fun z _ => z = .v (.bool (decide (l = m)))) :=
  smi_vc n1 n2 c1 c2 a1 a2 l m S1 S2 (by
    simp only [true_and, and_true, AV.den, Value.int.injEq, br_iff, bne_iff_ne, bne_eq_false_iff_eq, beq_iff_eq, beq_eq_false_iff_ne, ne_eq, decide_eq_true_eq, decide_eq_false_iff_not, Int.toNat_natCast, Nat.zero_add]
    refine ⟨fun h => ?_, fun h => ⟨⟨0, ⟨Nat.zero_le _, fun q hq => absurd hq (Nat.not_lt_zero _)⟩, rfl, LeH.refl _⟩, fun i hi => ⟨fun hlt => ⟨⟨by omega, by omega⟩, by omega, ⟨by omega, by omega⟩, by omega, fun hne => ?_, fun he => ⟨i + 1, ⟨by omega, fun q hq => ?_⟩, by omega, by rw [w64 (by omega)]; rfl, LeH.refl _⟩⟩, fun hge => ?_⟩⟩⟩
    · have : ¬ l = m := fun e => h (by rw [e])
      simp [this]
    · have : ¬ l = m := fun e => hne (by rw [e])
      simp [this]
    · rcases Nat.lt_or_ge q i with h3 | h3
      · exact hi.2 q h3
      · obtain rfl : q = i := by omega
        exact he
    · have : l = m := listI_eq (by omega) fun q hq => hi.2 q (by omega)
      simp [this])

theorem sms_lc (n1 n2 c1 c2 : Nat) (a1 a2 : Option Addr) (l m : List ByteArray) (S1 S2 : List Nat) (hl : l.length ≤ 1048576) : LC Try.prog 20 [.os 0 a1 n1 0 0 1 l.length c1, .os 1 a2 n2 0 0 1 m.length c2] [lS n1 l S1 false, lS n2 m S2 false] (fun z _ => z = .v (.bool (decide (l = m)))) :=
  sms_vc n1 n2 c1 c2 a1 a2 l m S1 S2 (by
    simp only [true_and, and_true, AV.den, Value.int.injEq, br_iff, bne_iff_ne, bne_eq_false_iff_eq, Bool.not_eq_true', Bool.not_eq_false', eqT, eqF, ne_eq, decide_eq_true_eq, decide_eq_false_iff_not, Int.toNat_natCast, Nat.zero_add]
    refine ⟨fun h => ?_, fun h => ⟨⟨0, ⟨Nat.zero_le _, fun q hq => absurd hq (Nat.not_lt_zero _)⟩, rfl, LeH.refl _⟩, fun i hi => ⟨fun hlt => ⟨⟨by omega, by omega⟩, by omega, ⟨by omega, by omega⟩, by omega, fun hne => ?_, fun he => ⟨i + 1, ⟨by omega, fun q hq => ?_⟩, by omega, by rw [w64 (by omega)]; rfl, LeH.refl _⟩⟩, fun hge => ?_⟩⟩⟩
    · have : ¬ l = m := fun e => h (by rw [e])
      simp [this]
    · have : ¬ l = m := fun e => hne (by rw [e])
      simp [this]
    · rcases Nat.lt_or_ge q i with h3 | h3
      · exact hi.2 q h3
      · obtain rfl : q = i := by omega
        exact he
    · have : l = m := listS_eq (by omega) fun q hq => hi.2 q (by omega)
      simp [this])

theorem lI_read {n : Nat} {l : List Int} {S : List Nat} {w : Bool} : LeB (lI n l S w) (lI n l S false) := LeB.ints (Nat.le_refl _) (fun h => (by cases h)) (.inl rfl) fun _ _ => rfl
theorem lS_read {n : Nat} {l : List ByteArray} {S : List Nat} {w : Bool} : LeB (lS n l S w) (lS n l S false) := LeB.strs (Nat.le_refl _) (fun h => (by cases h)) (.inl rfl) fun _ _ => rfl

theorem sameIO_ok : HOk Try.prog 17 sameIO := HOk.of_read (enters_of (c := body Try.f17) Try.func17 rfl (by kernel_rfl)) fun rs args H K hk => by
  unfold sameIO at hk
  split at hk
  · rename_i i1 a1 n1 k1 c1 i2 a2 n2 k2 c2
    obtain ⟨l, m, S1, S2, w1, w2, h1, h2, rfl, rfl, hnd, hl, hk⟩ := hk
    refine ⟨_, [.os 0 a1 n1 0 0 1 l.length c1, .os 1 a2 n2 0 0 1 m.length c2], _, leAt (H := H) (H' := [lI n1 l S1 false, lI n2 m S2 false]) [i1, i2] hnd ?_, rfl, rfl, (smi_lc n1 n2 c1 c2 a1 a2 l m S1 S2 hl).mono fun r H' e => by rw [e], hk⟩
    simp only [pickH, h1, h2]
    exact ⟨lI_read, lI_read, trivial⟩
  · cases hk

theorem sameSO_ok : HOk Try.prog 20 sameSO := HOk.of_read (enters_of (c := body Try.f20) Try.func20 rfl (by kernel_rfl)) fun rs args H K hk => by
  unfold sameSO at hk
  split at hk
  · rename_i i1 a1 n1 k1 c1 i2 a2 n2 k2 c2
    obtain ⟨l, m, S1, S2, w1, w2, h1, h2, rfl, rfl, hnd, hl, hk⟩ := hk
    refine ⟨_, [.os 0 a1 n1 0 0 1 l.length c1, .os 1 a2 n2 0 0 1 m.length c2], _, leAt (H := H) (H' := [lS n1 l S1 false, lS n2 m S2 false]) [i1, i2] hnd ?_, rfl, rfl, (sms_lc n1 n2 c1 c2 a1 a2 l m S1 S2 hl).mono fun r H' e => by rw [e], hk⟩
    simp only [pickH, h1, h2]
    exact ⟨lS_read, lS_read, trivial⟩
  · cases hk

end Go.Proofs.Ytkjnkepdhbpnbaa

