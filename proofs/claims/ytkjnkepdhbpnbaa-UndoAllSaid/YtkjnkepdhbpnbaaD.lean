/- Undo: the law UndoAll. -/
import Derived.Test.YtkjnkepdhbpnbaaC
namespace Go.Proofs.Ytkjnkepdhbpnbaa
open Go Go.Eng
set_option linter.unusedVariables false
set_option linter.unusedSimpArgs false

theorem limit (m : Int) : ∃ L : Nat, L ≤ 256 ∧ (if (if (256 : Int) < m then 256 else m) > 0 then if (256 : Int) < m then 256 else m else 0) = (L : Int) ∧ (max 0 (min m 256)).toNat = L := by
  refine ⟨(max 0 (min m 256)).toNat, by omega, ?_, rfl⟩
  split <;> split <;> omega

theorem leAt {a b : HH} (l : List Nat) (hn : l.Nodup) (h : LeBs (pickH a l) b) : LeH a b := ⟨l, hn, h⟩

theorem maxsub (a b : Nat) : (if (a : Int) - b > 0 then (a : Int) - b else 0) = ((a - b : Nat) : Int) := by split <;> omega

theorem minil (a b : Nat) : (if (a : Int) < b then (a : Int) else b) = ((min b a : Nat) : Int) := by split <;> omega

theorem bleF {a b : Nat} : (a.ble b = false) ↔ b < a := by
  rw [← Bool.not_eq_true, Nat.ble_eq]; omega
theorem beqF {a b : Nat} : (a.beq b = false) ↔ a ≠ b := by
  rw [← Bool.not_eq_true, Nat.beq_eq]

theorem leEq {a b : HH} (h : a = b) : LeH a b := h ▸ LeH.refl _


set_option maxHeartbeats 4000000 in
theorem all_law_1 (m : Int) (n o len cap : Nat) (g : Nat → Int) (hl : 0 < len) (hc : len ≤ cap) (hm : cap ≤ 9223372036854775807) : LC Try.prog 4 [.v (.int .i64 m), .vl 0 n o 0 1 len cap] [⟨n, .view o len [.ints .i64 g], false⟩] (fun z _ => z = .v (.bool true)) :=
  all_vc m n o len cap g (by
    intro n1 n2
    obtain ⟨L, hL, e1, e2⟩ := limit m
    rw [e1, e2]
    clear e1 e2
    have hw : ∀ x : Int, -9223372036854775808 ≤ x ∧ x ≤ 9223372036854775807 → IntKind.i64.wrap x = x := fun x h => w64 h
    simp (config := {decide := true}) only [true_and, and_true, br_iff, br_true, br_false, AV.den, Value.int.injEq, Value.bool.injEq, decide_eq_true_eq, decide_eq_false_iff_not, bne_iff_ne, beq_iff_eq, bne_eq_false_iff_eq, beq_eq_false_iff_ne, ne_eq, Bool.not_eq_true, Bool.false_eq, Bool.true_eq, minil, Int.toNat_natCast, Nat.sub_zero, Nat.zero_add, Nat.ble_eq, Nat.beq_eq, Nat.le_eq, bleF, beqF]
    refine ⟨fun _ => trivial, fun h6 => ?_⟩
    have h7 : len ≤ 600 := by omega
    refine ⟨.inl ⟨(), h6, LeH.refl _⟩, fun _ _ => ⟨fun _ => ?_, fun h => absurd (by omega) h⟩, ?_⟩
    · have e3 : IntKind.i64.wrap (1 - ↑L) = ((1 : Nat) : Int) - (L : Nat) := by rw [hw _ (by omega)]; rfl
      simp only [e3, maxsub, Int.toNat_natCast]
      refine ⟨by omega, hl, fun n5 n6 n7 h8 n9 => ⟨by omega, h8, .inr ⟨(1, 1 - (1 - L), n6, offB n7 (1 - L) 1 0, n7 - (1 - L), n7, _), ⟨by omega, by omega, (by show 1 - (1 - L) = min 1 L; omega), (by show 1 - (1 - L) ≤ n7 - (1 - L); omega), ?_, ?_⟩, by omega, ⟨by omega, h6⟩, leAt [0, 1, 2, 4] (by decide) ⟨LeB.refl _, LeB.refl _, LeB.refl _, LeB.refl _, trivial⟩⟩⟩⟩
      · show offB n7 (1 - L) 1 0 + (1 - (1 - L)) ≤ n7
        simp only [offB, offN]; split <;> (try split) <;> (try split) <;> omega
      · intro j hj
        replace hj : j < 1 - (1 - L) := hj
        obtain rfl : j = 0 := by omega
        have e4 : 1 - L = 0 := by omega
        generalize 1 - L = d at e4 hj ⊢
        subst e4
        rfl
    rintro ⟨i, ln, nb, r, c, N, g'⟩ ⟨h8, h9, h10, h11, h12, h13⟩
    simp only at h8 h9 h10 h11 h12 h13 ⊢
    have key : ∀ p q : Nat, p < ln → q = i - ln + p → g' (r + p) = g q := fun p q h1 h2 => by rw [h13 p h1, h2]
    refine ⟨fun hlt => ?_, fun hge => ?_⟩
    · have e3 : IntKind.i64.wrap (↑(ln + 1) - ↑L) = ((ln + 1 : Nat) : Int) - (L : Nat) := hw _ (by omega)
      have e4 : IntKind.i64.wrap (↑i + 1) = ((i + 1 : Nat) : Int) := by rw [hw _ (by omega)]; rfl
      simp only [e3, e4, maxsub, Int.toNat_natCast]
      refine ⟨⟨by omega, by omega⟩, by omega, ⟨by omega, by omega⟩, ⟨by omega, by omega⟩, fun n5 => ⟨by omega, fun h => absurd h (by omega), fun _ => ?_⟩⟩
      refine ⟨⟨by omega, by omega⟩, fun n6 n7 h14 n9 => ⟨by omega, h14, .inr ⟨(i + 1, ln + 1 - (ln + 1 - L), n6, offB n7 (ln + 1 - L) (ln + 1) 0, n7 - (ln + 1 - L), n7, _), ⟨(by show 1 ≤ i + 1; omega), (by show i + 1 ≤ len; omega), (by show ln + 1 - (ln + 1 - L) = min (i + 1) L; omega), (by show ln + 1 - (ln + 1 - L) ≤ n7 - (ln + 1 - L); omega), ?_, ?_⟩, (by show len - (i + 1) < len - i; omega), ⟨rfl, h6⟩, leAt [0, 1, 2, 5] (by decide) ⟨LeB.refl _, LeB.refl _, LeB.refl _, LeB.refl _, trivial⟩⟩⟩⟩
      · show offB n7 (ln + 1 - L) (ln + 1) 0 + (ln + 1 - (ln + 1 - L)) ≤ n7
        simp only [offB, offN]; split <;> (try split) <;> (try split) <;> omega
      · intro j hj
        replace hj : j < ln + 1 - (ln + 1 - L) := hj
        have e5 : offB n7 (ln + 1 - L) (ln + 1) 0 = ln + 1 - L := by
          simp only [offB, offN]; split <;> (try split) <;> (try split) <;> omega
        show (fun i_1 => if i_1 < ln then g' (r + i_1) else if i_1 < ln + 1 then (match asI IntKind.i64 ((nth [AV.v (Value.int IntKind.i64 (g i))] ((i_1 - ln) * 1 + 0)).getD (AV.v undef)) with | some x => x | none => 0) else 0) (offB n7 (ln + 1 - L) (ln + 1) 0 + j) = g (i + 1 - (ln + 1 - (ln + 1 - L)) + j)
        rw [e5]
        simp only
        split
        · exact key _ _ (by omega) (by omega)
        · rw [if_pos (by omega)]
          have e6 : ln + 1 - L + j - ln = 0 := by omega
          rw [e6]
          show g i = _
          congr 1; omega
    · obtain rfl : i = len := by omega
      have e3 : IntKind.i64.wrap (↑i - ↑(min i L)) = ((i - min i L : Nat) : Int) := by rw [hw _ (by omega)]; omega
      simp only [e3, Int.toNat_natCast]
      refine ⟨⟨0, by omega, ⟨rfl, hge, h6⟩, by refine leEq ?_; simp only [List.cons.injEq, Blk.mk.injEq, Cont.cells.injEq, AV.v.injEq, Value.int.injEq, true_and, and_true]; omega⟩, fun n5 h14 => ⟨fun h15 => ?_, fun h15 => ?_⟩⟩
      · have e4 : IntKind.i64.wrap (↑ln - ↑n5 - 1) = ((ln - n5 - 1 : Nat) : Int) := by rw [hw _ (by omega)]; omega
        have e5 : IntKind.i64.wrap (↑i - 1) = (i : Int) - 1 := by rw [hw _ (by omega)]
        have e6 : IntKind.i64.wrap (↑i - 1 - ↑n5) = ((i - 1 - n5 : Nat) : Int) := by rw [hw _ (by omega)]; omega
        have e7 : IntKind.i64.wrap (↑n5 + 1) = ((n5 + 1 : Nat) : Int) := by rw [hw _ (by omega)]; rfl
        simp only [e4, e5, e6, e7, Int.toNat_natCast]
        refine ⟨fun h => by omega, fun _ => ⟨⟨by omega, by omega⟩, by omega, ⟨by omega, by omega⟩, by omega, fun h => absurd (key _ _ (by omega) (by omega)) h, fun _ => ⟨n5 + 1, by omega, by omega, ⟨rfl, hge, h6⟩, by refine leEq ?_; simp only [List.cons.injEq, Blk.mk.injEq, Cont.cells.injEq, AV.v.injEq, Value.int.injEq, true_and, and_true]; omega⟩⟩⟩
      · refine ⟨fun h16 => ?_, fun h => by omega⟩
        refine ⟨⟨0, by omega, ⟨rfl, h15, hge, h6⟩, by refine leEq ?_; simp only [List.cons.injEq, Blk.mk.injEq, Cont.cells.injEq, AV.v.injEq, Value.int.injEq, true_and, and_true]; omega⟩, fun n7 h17 => ⟨fun h18 => ?_, fun h18 => ?_⟩⟩
        · have e4 : IntKind.i64.wrap (↑ln - ↑n5 + ↑n7 + 1) = (n7 : Int) + 1 := by rw [hw _ (by omega)]; omega
          have e5 : IntKind.i64.wrap (↑n7 + 1) = ((n7 + 1 : Nat) : Int) := by rw [hw _ (by omega)]; rfl
          have e6 : IntKind.i64.wrap ((n7 : Int) + 1 - 1) = (n7 : Int) := by rw [hw _ (by omega)]; omega
          have e7 : IntKind.i64.wrap (((i - min i L : Nat) : Int) + ↑n7) = ((i - min i L + n7 : Nat) : Int) := by rw [hw _ (by omega)]; omega
          simp only [e4, e5, e6, e7, Int.toNat_natCast]
          refine ⟨fun h => by omega, fun _ => ⟨⟨by omega, by omega⟩, by omega, ⟨by omega, by omega⟩, by omega, fun h => absurd (key _ _ (by omega) (by omega)) h, fun _ => ⟨n7 + 1, by omega, by omega, ⟨rfl, h15, hge, h6⟩, by refine leEq ?_; simp only [List.cons.injEq, Blk.mk.injEq, Cont.cells.injEq, AV.v.injEq, Value.int.injEq, true_and, and_true]; omega⟩⟩⟩
        · have e8 : (ln : Int) - ↑n5 + ↑n7 = (ln : Int) := by omega
          have e9 : i - (i - min i L) = ln := by omega
          simp only [e8, e9, Int.toNat_natCast]
          refine ⟨fun _ => ⟨⟨by omega, by omega⟩, by omega, ⟨by omega, by omega⟩, fun n9 => ⟨by omega, fun h19 => ⟨fun h20 => ⟨fun h => by omega, fun _ => ?_⟩, fun h => by omega⟩, fun h19 => ?_⟩⟩, fun h => absurd trivial h⟩
          · exact ⟨0, by omega, ⟨rfl, by omega⟩, LeH.refl _⟩
          · have e10 : offB cap (i - min i L) i 0 = i - ln := by
              simp only [offB, offN]; split <;> (try split) <;> (try split) <;> omega
            simp only [e10]
            refine ⟨⟨by omega, by omega⟩, fun n10 n11 h20 => ⟨fun h => absurd trivial h, fun _ => ⟨⟨0, by omega, ⟨rfl, trivial⟩, LeH.refl _⟩, fun n13 h21 => ⟨fun h22 => ?_, fun _ => trivial⟩⟩⟩⟩
            have e11 : IntKind.i64.wrap (↑n13 + 1) = ((n13 + 1 : Nat) : Int) := by rw [hw _ (by omega)]; rfl
            have e12 : (if n13 < 0 then 0 else if n13 < ln then g' (r + n13) else 0) = g (i - ln + n13) := by
              rw [if_neg (by omega), if_pos (by omega)]
              exact key _ _ (by omega) rfl
            simp only [e11]
            exact ⟨⟨by omega, by omega⟩, by omega, ⟨by omega, by omega⟩, by omega, fun h => absurd e12 h, fun _ => ⟨n13 + 1, by omega, by omega, ⟨rfl, trivial⟩, LeH.refl _⟩⟩)
end Go.Proofs.Ytkjnkepdhbpnbaa

