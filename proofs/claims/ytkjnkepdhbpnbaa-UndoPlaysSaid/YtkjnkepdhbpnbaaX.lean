/- Undo: To's contract. -/
import Derived.Test.YtkjnkepdhbpnbaaW
namespace Go.Proofs.Ytkjnkepdhbpnbaa
open Go Go.Eng Go.Sp
set_option linter.unusedVariables false
set_option linter.unusedSimpArgs false

set_option maxHeartbeats 2000000 in
theorem toH_ok : HOk Try.prog 24 toH := hist_ok (enters_of (c := body Try.f24) Try.func24 rfl (by kernel_rfl)) fun rs args H K hk => by
  unfold toH at hk
  split at hk
  · rename_i id n nm
    obtain ⟨s, S, rfl, hb, ok, hk⟩ := hk
    have e1 := ok.m0
    have e2 := ok.m1
    have e3 := ok.le
    have e4 := ok.lm
    refine ⟨id, s, S, [.ptr 0 s.hn 0, .v (.string nm)], hb, rfl, fun H0 hc => ?_⟩
    rcases hc with ⟨ha, hl, mn, rfl⟩ | ⟨mn, an, r, cap, N, g, h1, h2, h3, rfl⟩
    · have hc : histC s (histN s mn) := .inl ⟨ha, hl, mn, rfl⟩
      refine to0_vc s.hn mn s.most s.es s.clock nm ?_
      simp only [true_and, and_true, br_iff, eqT, eqF, decide_eq_true_eq, decide_eq_false_iff_not]
      refine ⟨fun a n2 hm => ⟨fun e => ?_, fun _ => trivial⟩, fun hn => ⟨s, histN s mn, [], _, leEq (List.append_nil _).symm, hc, rfl, rfl, fun S' => by rw [List.append_nil]; exact (hk S').1 fun v b hm => hn _ _ hm rfl⟩⟩
      have mk := ok.mark a n2 hm
      refine ⟨fun h => absurd h (by omega), fun _ => ⟨fun h => absurd h (by omega), fun _ => ⟨s, histN s mn, [], _, leEq (List.append_nil _).symm, hc, rfl, rfl, fun S' => by
        rw [List.append_nil]
        exact ((hk S').2 0 n2 (by have : a.2 = ((0 : Nat) : Int) := by omega
                                  rw [e, ← this]; exact hm)).1 ha.symm⟩⟩⟩
    · have hc : histC s (histR s mn an r cap N g) := .inr ⟨mn, an, r, cap, N, g, h1, h2, h3, rfl⟩
      have hcg : ∀ p, histC (s.goTo p) (histR (s.goTo p) mn an r cap N g) := fun p => .inr ⟨mn, an, r, cap, N, g, h1, h2, h3, rfl⟩
      refine to1_vc s.hn mn an s.most s.at_ s.es s.clock r s.len cap N g nm ?_
      simp only [true_and, and_true, br_iff, eqT, eqF, decide_eq_true_eq, decide_eq_false_iff_not, beq_iff_eq, beq_eq_false_iff_ne, ne_eq]
      refine ⟨fun a n2 hm => ⟨fun e => ?_, fun _ => trivial⟩, fun hn => ⟨s, histR s mn an r cap N g, [], _, leEq (List.append_nil _).symm, hc, rfl, rfl, fun S' => by rw [List.append_nil]; exact (hk S').1 fun v b hm => hn _ _ hm rfl⟩⟩
      have mk := ok.mark a n2 hm
      subst e
      obtain ⟨⟨nm, v⟩, rfl⟩ : ∃ p, a = p := ⟨_, rfl⟩
      obtain ⟨v, rfl⟩ : ∃ k : Nat, v = (k : Int) := ⟨v.toNat, by have := mk.1; simp only at this; omega⟩
      simp only at mk ⊢
      replace hk := fun S' => (hk S').2 v n2 hm
      have dw : ∀ p : Nat, 0 < p → p ≤ s.len → IntKind.i64.wrap ((p : Int) - 1) = ((p - 1 : Nat) : Int) := fun p _ _ => by rw [w64 (by omega)]; omega
      have uw : ∀ p : Nat, p < s.len → IntKind.i64.wrap ((p : Int) + 1) = ((p + 1 : Nat) : Int) := fun p _ => by rw [w64 (by omega)]; omega
      have uw2 : ∀ p : Nat, p < s.len → IntKind.i64.wrap (((p + 1 : Nat) : Int) - 1) = (p : Int) := fun p _ => by rw [w64 (by omega)]; omega
      have fin : ∀ x : TX, ((x.p + x.k = s.at_ ∧ x.p = v ∧ ∀ j, j < x.k → x.g j = g (r + (s.at_ - 1 - j))) ∨ (x.p = s.at_ + x.k ∧ x.p = v ∧ ∀ j, j < x.k → x.g j = g (r + (s.at_ + j)))) → 1 ≤ x.k → x.k ≤ x.cap → ∃ (s' : HS) (N' Nx : HH) (z' : AV), LeH [Blk.mk s.hn (.cells [.v (.int .i64 s.most), .v (.int .i64 (x.p : Int)), .sl 2 an r 1 s.len cap, .mp 1 mn] 55) true, Blk.mk mn (.mape (ByteArray × Int) kyM vlM mkM s.es s.clock) true, Blk.mk an (.rows N [.ints .i64 g] 3) true, Blk.mk x.n (.rows x.cap [.ints .i64 x.g] 3) true] (N' ++ Nx) ∧ histC s' N' ∧ s'.hn = s.hn ∧ z'.den = (AV.tup [AV.sl 3 x.n 0 1 x.k x.cap, .v (.int .i64 0)]).den ∧ ∀ S', K (.ret z') (H.set id (hH s' S') ++ Nx) := fun x hx hk1 hkc => by
        refine ⟨s.goTo x.p, histR (s.goTo x.p) mn an r cap N g, [Blk.mk x.n (.rows x.cap [.ints .i64 x.g] 3) true], .tup [.sl H.length x.n 0 1 x.k x.cap, .v (.int .i64 0)], LeH.refl _, hcg _, rfl, rfl, fun S' => ?_⟩
        rcases hx with ⟨g1, g2, g3⟩ | ⟨g1, g2, g3⟩
        · have gk : x.k = s.at_ - v := by omega
          rw [g2, gk]
          exact (hk S').2.1 (by omega) x.n x.cap x.g (by omega) fun j hj => by rw [g3 j (by omega), h3 _ (by omega)]
        · have gk : x.k = v - s.at_ := by omega
          rw [g2, gk]
          exact (hk S').2.2 (by omega) (by omega) x.n x.cap x.g (by omega) fun j hj => by rw [g3 j (by omega), h3 _ (by omega)]
      refine ⟨.inl ⟨(), LeH.refl _⟩, fun _ _ => ⟨fun h => ⟨fun h0 => absurd h (by omega), fun h0 => ?_⟩, fun h => ⟨.inl ⟨(), LeH.refl _⟩, fun _ _ => ⟨fun h5 => ⟨fun h0 => absurd h5 (by omega), fun h0 => ?_⟩, fun h5 => ?_⟩, ?_⟩⟩, ?_⟩
      · rw [dw s.at_ (by omega) (by omega)]
        simp only [Int.toNat_natCast]
        refine ⟨⟨by omega, by omega⟩, by omega, fun n6 => ⟨by decide, fun n7 n8 h8 => .inr ⟨⟨s.at_ - 1, 1, n7, n8, _⟩, ⟨?_, ?_, ?_, ?_, ?_⟩, ?_, rfl, leAt [0, 1, 2, 4] (by decide) (LeBs.refl _)⟩⟩⟩
        · show s.at_ - 1 + 1 = s.at_; omega
        · show (v : Int) ≤ ((s.at_ - 1 : Nat) : Int); omega
        · exact h8
        · exact Nat.le_refl 1
        · intro j hj
          replace hj : j < 1 := hj
          obtain rfl : j = 0 := by omega
          rfl
        · show (((s.at_ - 1 : Nat) : Int) - (v : Int)).natAbs < _; omega
      · rw [uw s.at_ (by omega), uw2 s.at_ (by omega)]
        simp only [Int.toNat_natCast]
        refine ⟨⟨by omega, by omega⟩, by omega, fun n6 => ⟨by decide, fun n7 n8 h8 => .inr ⟨⟨s.at_ + 1, 1, n7, n8, _⟩, ⟨?_, ?_, ?_, ?_, ?_⟩, ?_, rfl, leAt [0, 1, 2, 4] (by decide) (LeBs.refl _)⟩⟩⟩
        · rfl
        · show ((s.at_ + 1 : Nat) : Int) ≤ (v : Int); omega
        · exact h8
        · exact Nat.le_refl 1
        · intro j hj
          replace hj : j < 1 := hj
          obtain rfl : j = 0 := by omega
          rfl
        · show (((s.at_ + 1 : Nat) : Int) - (v : Int)).natAbs < _; omega
      · exact ⟨s, histR s mn an r cap N g, [], _, leEq (List.append_nil _).symm, hc, rfl, rfl, fun S' => by rw [List.append_nil]; exact (hk S').1 (by omega)⟩
      · rintro ⟨p, k, n1, c1, g1⟩ ⟨i1, i2, i3, i4, i5⟩
        simp only at i1 i2 i3 i4 i5 ⊢
        refine ⟨fun h5 => ⟨fun h0 => absurd h5 (by omega), fun h0 => ?_⟩, fun h5 => ?_⟩
        · rw [uw p (by omega), uw2 p (by omega)]
          simp only [Int.toNat_natCast]
          refine ⟨⟨by omega, by omega⟩, by omega, fun n6 => ⟨i3, ⟨by omega, by omega⟩, fun b n7 n8 h8 => .inr ⟨⟨p + 1, k + 1, n7, n8, _⟩, ⟨?_, ?_, ?_, ?_, ?_⟩, ?_, rfl, leAt [0, 1, 2, 3] (by decide) (LeBs.refl _)⟩⟩⟩
          · show p + 1 = s.at_ + (k + 1); omega
          · show ((p + 1 : Nat) : Int) ≤ (v : Int); omega
          · exact h8
          · show 1 ≤ k + 1; omega
          · intro j hj
            replace hj : j < k + 1 := hj
            show (if j < k + 1 then (if j < k then g1 (0 + j) else if j < k + 1 then _ else 0) else _) = g _
            rw [if_pos hj]
            by_cases hlt : j < k
            · rw [if_pos hlt, Nat.zero_add]; exact i5 j hlt
            · obtain rfl : j = k := by omega
              rw [if_neg hlt, if_pos hj, Nat.sub_self]
              show g _ = g _
              congr 1
              omega
          · show (((p + 1 : Nat) : Int) - (v : Int)).natAbs < _; omega
        · exact fin ⟨p, k, n1, c1, g1⟩ (.inr ⟨i1, (by show p = v; omega), i5⟩) i4 i3
      · rintro ⟨p, k, n1, c1, g1⟩ ⟨i1, i2, i3, i4, i5⟩
        simp only at i1 i2 i3 i4 i5 ⊢
        refine ⟨fun h5 => ⟨fun h0 => absurd h5 (by omega), fun h0 => ?_⟩, fun h5 => ⟨fun h6 => absurd h6 (by omega), fun h6 => ?_⟩⟩
        · rw [dw p (by omega) (by omega)]
          simp only [Int.toNat_natCast]
          refine ⟨⟨by omega, by omega⟩, by omega, fun n6 => ⟨i3, ⟨by omega, by omega⟩, fun b n7 n8 h8 => .inr ⟨⟨p - 1, k + 1, n7, n8, _⟩, ⟨?_, ?_, ?_, ?_, ?_⟩, ?_, rfl, leAt [0, 1, 2, 3] (by decide) (LeBs.refl _)⟩⟩⟩
          · show p - 1 + (k + 1) = s.at_; omega
          · show (v : Int) ≤ ((p - 1 : Nat) : Int); omega
          · exact h8
          · show 1 ≤ k + 1; omega
          · intro j hj
            replace hj : j < k + 1 := hj
            show (if j < k + 1 then (if j < k then g1 (0 + j) else if j < k + 1 then _ else 0) else _) = g _
            rw [if_pos hj]
            by_cases hlt : j < k
            · rw [if_pos hlt, Nat.zero_add]; exact i5 j hlt
            · obtain rfl : j = k := by omega
              rw [if_neg hlt, if_pos hj, Nat.sub_self]
              show g _ = g _
              congr 1
              omega
          · show (((p - 1 : Nat) : Int) - (v : Int)).natAbs < _; omega
        · exact fin ⟨p, k, n1, c1, g1⟩ (.inl ⟨i1, (by show p = v; omega), i5⟩) i4 i3
  · cases hk
end Go.Proofs.Ytkjnkepdhbpnbaa

