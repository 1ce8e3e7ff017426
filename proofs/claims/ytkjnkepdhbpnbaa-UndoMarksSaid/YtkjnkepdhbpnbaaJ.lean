/- Undo: the methods' contracts. -/
import Derived.Test.YtkjnkepdhbpnbaaI
namespace Go.Proofs.Ytkjnkepdhbpnbaa
open Go Go.Eng Go.Sp
set_option linter.unusedVariables false
set_option linter.unusedSimpArgs false

theorem nbT {a b : Nat} : (a.beq b = true) ↔ a = b := by rw [Nat.beq_eq]
theorem nbF {a b : Nat} : (a.beq b = false) ↔ ¬ a = b := by rw [← Bool.not_eq_true, Nat.beq_eq]
theorem nlT {a b : Nat} : (a.ble b = true) ↔ a ≤ b := by rw [Nat.ble_eq]
theorem nlF {a b : Nat} : (a.ble b = false) ↔ ¬ a ≤ b := by rw [← Bool.not_eq_true, Nat.ble_eq]

theorem mkM_eq {k v : AV} {a : ByteArray × Int} (h : mkM k v = some a) : kyM a = k ∧ vlM a = v := by
  unfold mkM at h
  split at h
  · cases h; exact ⟨rfl, rfl⟩
  · cases h

theorem newH_ok : HOk Try.prog 14 newH := HOk.of_new (enters_of (c := body Try.f14) Try.func14 rfl (by kernel_rfl)) fun rs args H K hk => by
  unfold newH at hk
  split at hk
  · rename_i m
    refine ⟨fun z H' => ∃ n1 n2, z = .ptr 1 n2 0 ∧ H' = [Blk.mk n1 (Cont.mapc [] 0) true, Blk.mk n2 (Cont.cells [.v (.int .i64 (HS.new n2 m).most), .v (.int .i64 0), AV.v (Value.slice none 0 0), AV.mp 0 n1] 55) true], new0_vc m fun n1 n2 => ⟨n1, n2, rfl, ?_⟩, ?_⟩
    · have : (if (if 256 < m then 256 else m) > 0 then if 256 < m then 256 else m else 0) = (HS.new n2 m).most := by
        show _ = max 0 (min m 256)
        split <;> split <;> omega
      rw [← this]
    · rintro z H' ⟨n1, n2, rfl, rfl⟩
      refine ⟨.ptr H.length n2 0, [hH (HS.new n2 m) [n2, n1]], rfl, hk n2 _, ?_⟩
      have l1 : LeH [Blk.mk n1 (Cont.mapc [] 0) true, Blk.mk n2 (Cont.cells [.v (.int .i64 (HS.new n2 m).most), .v (.int .i64 0), AV.v (Value.slice none 0 0), AV.mp 0 n1] 55) true] (histN (HS.new n2 m) n1) :=
        leAt [1, 0] (by decide) ⟨⟨fun _ h => h, id, fun w h => h⟩, ⟨fun _ h => h, id, fun w h => ⟨h, List.nodup_nil, fun e (he : e ∈ []) => (by cases he), fun k v a h => mkM_eq h⟩⟩, trivial⟩
      have hc : histC (HS.new n2 m) (histN (HS.new n2 m) n1) := .inl ⟨rfl, rfl, n1, rfl⟩
      refine ⟨fun w hw => (To.pack (Hr := []) n2 hc (histC_own hc) (by rw [List.append_nil]; exact l1.holds w hw)).hp, fun i b hi k hk => ?_⟩
      cases i with
      | zero =>
        cases hi
        obtain ⟨i, c, hi, hc⟩ := (numsAll_mem (H := histN (HS.new n2 m) n1)).1 hk
        obtain ⟨j, d, h1, h2, _⟩ := l1.src i c hi k hc
        refine ⟨j, d, h1, h2, fun _ => ?_⟩
        match j, h1 with
        | 0, h1 => cases h1; rfl
        | 1, h1 => cases h1; rfl
      | succ i => cases hi
  · cases hk

theorem backH_ok : HOk Try.prog 15 backH := hist_ok (enters_of (c := body Try.f15) Try.func15 rfl (by kernel_rfl)) fun rs args H K hk => by
  unfold backH at hk
  split at hk
  · rename_i id n
    obtain ⟨s, S, rfl, hb, ok, hk⟩ := hk
    have e1 := ok.le
    have e2 := ok.lm
    have e3 := ok.m1
    refine ⟨id, s, S, [.ptr 0 s.hn 0], hb, rfl, fun H0 hc => ?_⟩
    rcases hc with ⟨ha, hl, mn, rfl⟩ | ⟨mn, an, r, cap, N, g, h1, h2, h3, rfl⟩
    · refine back0_vc s.hn mn s.most s.es s.clock ?_
      simp only [true_and, and_true]
      exact ⟨s, histN s mn, [], _, leEq (List.append_nil _).symm, .inl ⟨ha, hl, mn, rfl⟩, rfl, rfl, fun S' => by rw [List.append_nil]; exact (hk S').1 ha⟩
    · refine back1_vc s.hn mn an s.most s.at_ s.es s.clock r s.len cap N g ?_
      simp only [true_and, and_true, br_iff, beq_iff_eq, beq_eq_false_iff_ne, ne_eq]
      refine ⟨fun h => ⟨s, histR s mn an r cap N g, [], _, leEq (List.append_nil _).symm, .inr ⟨mn, an, r, cap, N, g, h1, h2, h3, rfl⟩, rfl, rfl, fun S' => by rw [List.append_nil]; exact (hk S').1 (by omega)⟩, fun h => ?_⟩
      have ew : IntKind.i64.wrap ((s.at_ : Int) - 1) = ((s.at_ - 1 : Nat) : Int) := by rw [w64 (by omega)]; omega
      rw [ew]
      refine ⟨⟨by omega, by omega⟩, by omega, s.back, histR s.back mn an r cap N g, [], .tup [.v (.int .i64 (s.g (s.at_ - 1))), .v (.int .i64 0)], leEq (List.append_nil _).symm, .inr ⟨mn, an, r, cap, N, g, h1, h2, h3, rfl⟩, rfl, ?_, fun S' => by rw [List.append_nil]; exact (hk S').2 (by omega)⟩
      rw [← h3 (s.at_ - 1) (by omega)]
      rfl
  · cases hk

theorem againH_ok : HOk Try.prog 16 againH := hist_ok (enters_of (c := body Try.f16) Try.func16 rfl (by kernel_rfl)) fun rs args H K hk => by
  unfold againH at hk
  split at hk
  · rename_i id n
    obtain ⟨s, S, rfl, hb, ok, hk⟩ := hk
    have e1 := ok.le
    have e2 := ok.lm
    have e3 := ok.m1
    refine ⟨id, s, S, [.ptr 0 s.hn 0], hb, rfl, fun H0 hc => ?_⟩
    rcases hc with ⟨ha, hl, mn, rfl⟩ | ⟨mn, an, r, cap, N, g, h1, h2, h3, rfl⟩
    · refine again0_vc s.hn mn s.most s.es s.clock ?_
      simp only [true_and, and_true]
      exact ⟨s, histN s mn, [], _, leEq (List.append_nil _).symm, .inl ⟨ha, hl, mn, rfl⟩, rfl, rfl, fun S' => by rw [List.append_nil]; exact (hk S').1 (by omega)⟩
    · refine again1_vc s.hn mn an s.most s.at_ s.es s.clock r s.len cap N g ?_
      simp only [true_and, and_true, br_iff, beq_iff_eq, beq_eq_false_iff_ne, ne_eq]
      refine ⟨fun h => ⟨s, histR s mn an r cap N g, [], _, leEq (List.append_nil _).symm, .inr ⟨mn, an, r, cap, N, g, h1, h2, h3, rfl⟩, rfl, rfl, fun S' => by rw [List.append_nil]; exact (hk S').1 (by omega)⟩, fun h => ?_⟩
      have ew : IntKind.i64.wrap ((s.at_ : Int) + 1) = ((s.at_ + 1 : Nat) : Int) := by rw [w64 (by omega)]; omega
      have ew2 : IntKind.i64.wrap (((s.at_ + 1 : Nat) : Int) - 1) = (s.at_ : Int) := by rw [w64 (by omega)]; omega
      rw [ew, ew2]
      refine ⟨⟨by omega, by omega⟩, by omega, s.again, histR s.again mn an r cap N g, [], .tup [.v (.int .i64 (s.g s.at_)), .v (.int .i64 0)], leEq (List.append_nil _).symm, .inr ⟨mn, an, r, cap, N, g, h1, h2, h3, rfl⟩, rfl, ?_, fun S' => by rw [List.append_nil]; exact (hk S').2 (by omega)⟩
      rw [← h3 s.at_ (by omega)]
      rfl
  · cases hk

theorem doneH_ok : HOk Try.prog 11 doneH := hist_ok (enters_of (c := body Try.f11) Try.func11 rfl (by kernel_rfl)) fun rs args H K hk => by
  unfold doneH at hk
  split at hk
  · rename_i id n
    obtain ⟨s, S, rfl, hb, ok, hk⟩ := hk
    have e1 := ok.le
    have e2 := ok.lm
    have e3 := ok.m1
    refine ⟨id, s, S, [.ptr 0 s.hn 0], hb, rfl, fun H0 hc => ?_⟩
    rcases hc with ⟨ha, hl, mn, rfl⟩ | ⟨mn, an, r, cap, N, g, h1, h2, h3, rfl⟩
    · refine don0_vc s.hn mn s.most s.es s.clock ?_
      simp only [true_and, and_true]
      exact ⟨by decide, s, histN s mn, [], _, leEq (List.append_nil _).symm, .inl ⟨ha, hl, mn, rfl⟩, rfl, rfl, fun S' => by rw [List.append_nil]; exact (hk S').1 ha none 0⟩
    · refine don1_vc s.hn mn an s.most s.at_ s.es s.clock r s.len cap N g ?_
      simp only [true_and, and_true, br_iff, nlT, nlF, nbT, nbF, Int.toNat_natCast, Nat.sub_zero, Nat.zero_add]
      have hc : histC s (histR s mn an r cap N g) := .inr ⟨mn, an, r, cap, N, g, h1, h2, h3, rfl⟩
      refine ⟨⟨by omega, by omega⟩, fun n1 => ⟨by omega, by decide, fun h => ⟨fun h4 => ?_, fun h4 => absurd (by omega) h4⟩, fun h => ⟨⟨by omega, by omega⟩, fun n2 n3 hn => ?_⟩⟩⟩
      · exact ⟨s, histR s mn an r cap N g, [], .v (.slice (some ⟨n1, 0, none⟩) 0 0), leAt [0, 1, 2] (by decide) (LeBs.refl _), hc, rfl, rfl, fun S' => by rw [List.append_nil]; exact (hk S').1 h4 _ _⟩
      · refine ⟨s, histR s mn an r cap N g, [Blk.mk n2 (.rows n3 [.ints .i64 _] 3) true], .sl H.length n2 0 1 s.at_ n3, leAt [0, 1, 2, 4] (by decide) (LeBs.refl _), hc, rfl, rfl, fun S' => (hk S').2 (by omega) n2 n3 n3 _ hn hn fun k hk => ?_⟩
        rw [if_neg (by omega), if_pos hk, ← h3 k (by omega)]
  · cases hk

theorem undoneH_ok : HOk Try.prog 12 undoneH := hist_ok (enters_of (c := body Try.f12) Try.func12 rfl (by kernel_rfl)) fun rs args H K hk => by
  unfold undoneH at hk
  split at hk
  · rename_i id n
    obtain ⟨s, S, rfl, hb, ok, hk⟩ := hk
    have e1 := ok.le
    have e2 := ok.lm
    have e3 := ok.m1
    refine ⟨id, s, S, [.ptr 0 s.hn 0], hb, rfl, fun H0 hc => ?_⟩
    rcases hc with ⟨ha, hl, mn, rfl⟩ | ⟨mn, an, r, cap, N, g, h1, h2, h3, rfl⟩
    · refine und0_vc s.hn mn s.most s.es s.clock ?_
      simp only [true_and, and_true]
      exact ⟨by decide, by decide, s, histN s mn, [], .v (.slice none (s.len - s.at_) 0), leEq (List.append_nil _).symm, .inl ⟨ha, hl, mn, rfl⟩, rfl, by rw [hl]; simp, fun S' => by rw [List.append_nil]; exact hk S' none 0⟩
    · refine und1_vc s.hn mn an s.most s.at_ s.es s.clock r s.len cap N g ?_
      simp only [true_and, and_true, br_iff, nlT, nlF, nbT, nbF, Int.toNat_natCast, Nat.sub_zero, Nat.zero_add]
      have hc : histC s (histR s mn an r cap N g) := .inr ⟨mn, an, r, cap, N, g, h1, h2, h3, rfl⟩
      have ho : offB cap s.at_ s.len r + (s.len - s.at_) ≤ N := by
        unfold offB offN
        repeat' split
        all_goals omega
      refine ⟨⟨by omega, by omega⟩, h1, fun n1 => ⟨ho, by decide, fun h => ⟨fun h4 => ?_, fun h4 => absurd (by omega) h4⟩, fun h => ⟨⟨by omega, by omega⟩, fun n2 n3 hn => ?_⟩⟩⟩
      · exact ⟨s, histR s mn an r cap N g, [], .v (.slice (some ⟨n1, 0, none⟩) (s.len - s.at_) 0), leAt [0, 1, 2] (by decide) (LeBs.refl _), hc, rfl, by rw [h4]; rfl, fun S' => by rw [List.append_nil]; exact hk S' _ _⟩
      · exact ⟨s, histR s mn an r cap N g, [], .v (.slice (some ⟨n2, 0, none⟩) (s.len - s.at_) n3), leAt [0, 1, 2] (by decide) (LeBs.refl _), hc, rfl, rfl, fun S' => by rw [List.append_nil]; exact hk S' _ _⟩
  · cases hk
end Go.Proofs.Ytkjnkepdhbpnbaa

