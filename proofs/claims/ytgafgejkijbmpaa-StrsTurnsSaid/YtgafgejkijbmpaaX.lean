/- Strs: the law StrsTurns. -/
import Derived.Test.YtgafgejkijbmpaaW
namespace Go.Sp
open Go.Eng

/-- A byte that stands for itself alone. -/
def plainB (c : UInt8) : Prop := c ≠ 63 ∧ c ≠ 42 ∧ c ≠ 126 ∧ ¬ (65 ≤ c.toNat ∧ c.toNat ≤ 90) ∧ ¬ (97 ≤ c.toNat ∧ c.toNat ≤ 122)

/-- The first bytes of a text stand for themselves. -/
structure plainTo (p : ByteArray) (i : Nat) : Prop where
  get : ∀ j, j < i → plainB (bAt p j)

theorem up_plain {c : UInt8} (h : plainB c) : upB c = c := by
  unfold upB
  rw [if_neg h.2.2.2.2]

theorem up_back {c d : UInt8} (h : plainB c) (hd : upB d = c) : d = c := by
  unfold upB at hd
  split at hd
  · rename_i h1
    have h2 : (d - 32).toNat = d.toNat - 32 := UInt8.toNat_sub_of_le _ _ (by rw [UInt8.le_iff_toNat_le]; simp only [UInt8.toNat_ofNat]; omega)
    rw [hd] at h2
    have := h.2.2.2.1
    omega
  · exact hd

theorem stepsF_plain : ∀ {l : List UInt8}, (∀ c ∈ l, plainB c) → stepsF false l = l.map St.lit
  | [], _ => rfl
  | c :: l, h => by
    have hc := h c (by simp)
    rw [stepsF, if_pos (.inr ⟨hc.2.2.1, hc.1, hc.2.1⟩), stepsF_plain (fun d hd => h d (by simp [hd]))]
    rfl

theorem mt_plain : ∀ (l : List UInt8) (t : List UInt8), mt (l.map St.lit ++ [.row]) t = l.isPrefixOf t
  | [], t => by
    rw [Bool.eq_iff_iff]
    simp only [List.map_nil, List.isPrefixOf_nil_left, iff_true]
    exact (mt_star [] t).2 ⟨0, by omega, by simp [Eng.mt]⟩
  | c :: l, [] => by simp [Eng.mt]
  | c :: l, d :: t => by
    simp only [List.map_cons, List.cons_append, Eng.mt, List.isPrefixOf_cons_cons, mt_plain l t]

theorem pre_up : ∀ {l : List UInt8}, (∀ c ∈ l, plainB c) → ∀ t : List UInt8, l.isPrefixOf (t.map upB) = l.isPrefixOf t
  | [], _, t => by simp
  | c :: l, _, [] => by simp
  | c :: l, h, d :: t => by
    rw [List.map_cons, List.isPrefixOf_cons_cons, List.isPrefixOf_cons_cons, pre_up (fun e he => h e (by simp [he])) t]
    congr 1
    have hc := h c (by simp)
    rw [Bool.eq_iff_iff, beq_iff_eq, beq_iff_eq]
    exact ⟨fun e => (up_back hc e.symm).symm, fun e => by rw [← e, up_plain hc]⟩

theorem hit_plain {p s : ByteArray} (h : plainTo p p.size) (i : Nat) : hitB p s i = Lib.occAt s.data.toList p.data.toList i := by
  have hp : ∀ c ∈ p.data.toList, plainB c := fun c hc => by
    obtain ⟨j, hj, rfl⟩ := List.getElem_of_mem hc
    rw [size_data] at hj
    have := h.get j hj
    rw [bAt, List.getElem?_eq_getElem (by rw [size_data]; exact hj)] at this
    exact this
  have e : (mapB upB p).data.toList = p.data.toList := by
    rw [map_data]
    conv => rhs; rw [← List.map_id p.data.toList]
    exact List.map_congr_left fun c hc => up_plain (hp c hc)
  unfold hitB pat
  rw [e, stepsF_plain hp, mt_plain, map_data, ← List.map_drop, pre_up hp]
  rfl

theorem first_none {f : Nat → Bool} : ∀ (n i : Nat), (∀ j, i ≤ j → j < i + n → f j = false) → firstH f n i = none
  | 0, _, _ => rfl
  | n + 1, i, h => by
    rw [firstH, h i (Nat.le_refl _) (by omega)]
    simp only [Bool.false_eq_true, if_false]
    exact first_none n (i + 1) fun j h1 h2 => h j (by omega) (by omega)

theorem first_some {f : Nat → Bool} : ∀ (n i k : Nat), (∀ j, i ≤ j → j < k → f j = false) → i ≤ k → k < i + n → f k = true → firstH f n i = some ((k : Int) + 1)
  | 0, _, _, _, h1, h2, _ => by omega
  | n + 1, i, k, h, h1, h2, hk => by
    by_cases e : i = k
    · subst e
      rw [firstH, if_pos hk]
    · rw [firstH, h i (Nat.le_refl _) (by omega)]
      simp only [Bool.false_eq_true, if_false]
      exact first_some n (i + 1) k (fun j g1 g2 => h j (by omega) g2) (by omega) (by omega) hk

theorem search_find {p s : ByteArray} {from_ : Int} (h : plainTo p p.size) : searchO p s from_ = findO p s from_ := by
  by_cases hc : p.size ≤ 255 ∧ s.size ≤ 255 ∧ 1 ≤ from_ ∧ from_ ≤ s.size + 1
  · rw [show searchO p s from_ = _ from if_pos hc]
    cases hf : findO p s from_ with
    | none =>
      have hn := findO_no hf hc.1 hc.2.1 hc.2.2.1 hc.2.2.2
      exact first_none _ _ fun j h1 h2 => by rw [hit_plain h]; exact hn j (by omega) (by omega)
    | some k =>
      obtain ⟨i, rfl, h1, h2, h3, h4⟩ := findO_some hf
      exact first_some _ _ i (fun j g1 g2 => by rw [hit_plain h]; exact h4 j (by omega) g2) (by omega) (by omega) (by rw [hit_plain h]; exact h3)
  · rw [show searchO p s from_ = none from if_neg hc, show findO p s from_ = none from if_neg hc]

end Go.Sp
namespace Go.Proofs.Ytgafgejkijbmpaa
open Go Go.Eng Go.Sp
set_option linter.unusedVariables false
set_option linter.unusedSimpArgs false


set_option maxRecDepth 100000 in
theorem turns_vc (m : Int) (p s : ByteArray) (from_ : Int) {R : AV → Prop} (h : (br (decide ((↑p.size : Int) > (60 : Int))) (True ∧ R (AV.v (Value.bool true))) (br (decide ((↑s.size : Int) > (100 : Int))) (True ∧ R (AV.v (Value.bool true))) ((∃ (x : Nat), (x ≤ p.size ∧ plainTo p x) ∧ ((AV.v (Value.int IntKind.i64 (0 : Int))).den = (AV.v (Value.int IntKind.i64 (↑x : Int))).den ∧ (AV.v (Value.string p)).den = (AV.v (Value.string p)).den ∧ (AV.v (Value.string s)).den = (AV.v (Value.string s)).den ∧ (AV.v (Value.int IntKind.i64 from_)).den = (AV.v (Value.int IntKind.i64 from_)).den ∧ True) ∧ LeH [Blk.mk (0 : Nat) (Cont.view (0 : Nat) (1 : Nat) [Col.ints IntKind.i64 fun (x : Nat) => m]) false] [Blk.mk (0 : Nat) (Cont.view (0 : Nat) (1 : Nat) [Col.ints IntKind.i64 fun (x : Nat) => m]) false]) ∧ ∀ (n1 : Nat), n1 ≤ p.size ∧ plainTo p n1 → br (decide ((↑n1 : Int) < (↑p.size : Int))) (((0 : Int) ≤ (↑n1 : Int) ∧ (↑n1 : Int) < (↑p.size : Int)) ∧ br (byteAt p (↑n1 : Int).toNat == (63 : Int)) (True ∧ R (AV.v (Value.bool true))) (((0 : Int) ≤ (↑n1 : Int) ∧ (↑n1 : Int) < (↑p.size : Int)) ∧ br (byteAt p (↑n1 : Int).toNat == (42 : Int)) (True ∧ R (AV.v (Value.bool true))) (((0 : Int) ≤ (↑n1 : Int) ∧ (↑n1 : Int) < (↑p.size : Int)) ∧ br (byteAt p (↑n1 : Int).toNat == (126 : Int)) (True ∧ R (AV.v (Value.bool true))) (((0 : Int) ≤ (↑n1 : Int) ∧ (↑n1 : Int) < (↑p.size : Int)) ∧ br (decide (byteAt p (↑n1 : Int).toNat ≥ (65 : Int))) (((0 : Int) ≤ (↑n1 : Int) ∧ (↑n1 : Int) < (↑p.size : Int)) ∧ br (decide (byteAt p (↑n1 : Int).toNat ≤ (90 : Int))) (True ∧ R (AV.v (Value.bool true))) (((0 : Int) ≤ (↑n1 : Int) ∧ (↑n1 : Int) < (↑p.size : Int)) ∧ br (decide (byteAt p (↑n1 : Int).toNat ≥ (97 : Int))) (((0 : Int) ≤ (↑n1 : Int) ∧ (↑n1 : Int) < (↑p.size : Int)) ∧ br (decide (byteAt p (↑n1 : Int).toNat ≤ (122 : Int))) (True ∧ R (AV.v (Value.bool true))) (∃ (x' : Nat), (x' ≤ p.size ∧ plainTo p x') ∧ p.size - x' < p.size - n1 ∧ ((AV.v (Value.int IntKind.i64 (IntKind.i64.wrap ((↑n1 : Int) + (1 : Int))))).den = (AV.v (Value.int IntKind.i64 (↑x' : Int))).den ∧ (AV.v (Value.string p)).den = (AV.v (Value.string p)).den ∧ (AV.v (Value.string s)).den = (AV.v (Value.string s)).den ∧ (AV.v (Value.int IntKind.i64 from_)).den = (AV.v (Value.int IntKind.i64 from_)).den ∧ True) ∧ LeH [Blk.mk (0 : Nat) (Cont.view (0 : Nat) (1 : Nat) [Col.ints IntKind.i64 fun (x : Nat) => m]) false] [Blk.mk (0 : Nat) (Cont.view (0 : Nat) (1 : Nat) [Col.ints IntKind.i64 fun (x : Nat) => m]) false])) (∃ (x' : Nat), (x' ≤ p.size ∧ plainTo p x') ∧ p.size - x' < p.size - n1 ∧ ((AV.v (Value.int IntKind.i64 (IntKind.i64.wrap ((↑n1 : Int) + (1 : Int))))).den = (AV.v (Value.int IntKind.i64 (↑x' : Int))).den ∧ (AV.v (Value.string p)).den = (AV.v (Value.string p)).den ∧ (AV.v (Value.string s)).den = (AV.v (Value.string s)).den ∧ (AV.v (Value.int IntKind.i64 from_)).den = (AV.v (Value.int IntKind.i64 from_)).den ∧ True) ∧ LeH [Blk.mk (0 : Nat) (Cont.view (0 : Nat) (1 : Nat) [Col.ints IntKind.i64 fun (x : Nat) => m]) false] [Blk.mk (0 : Nat) (Cont.view (0 : Nat) (1 : Nat) [Col.ints IntKind.i64 fun (x : Nat) => m]) false]))) (((0 : Int) ≤ (↑n1 : Int) ∧ (↑n1 : Int) < (↑p.size : Int)) ∧ br (decide (byteAt p (↑n1 : Int).toNat ≥ (97 : Int))) (((0 : Int) ≤ (↑n1 : Int) ∧ (↑n1 : Int) < (↑p.size : Int)) ∧ br (decide (byteAt p (↑n1 : Int).toNat ≤ (122 : Int))) (True ∧ R (AV.v (Value.bool true))) (∃ (x' : Nat), (x' ≤ p.size ∧ plainTo p x') ∧ p.size - x' < p.size - n1 ∧ ((AV.v (Value.int IntKind.i64 (IntKind.i64.wrap ((↑n1 : Int) + (1 : Int))))).den = (AV.v (Value.int IntKind.i64 (↑x' : Int))).den ∧ (AV.v (Value.string p)).den = (AV.v (Value.string p)).den ∧ (AV.v (Value.string s)).den = (AV.v (Value.string s)).den ∧ (AV.v (Value.int IntKind.i64 from_)).den = (AV.v (Value.int IntKind.i64 from_)).den ∧ True) ∧ LeH [Blk.mk (0 : Nat) (Cont.view (0 : Nat) (1 : Nat) [Col.ints IntKind.i64 fun (x : Nat) => m]) false] [Blk.mk (0 : Nat) (Cont.view (0 : Nat) (1 : Nat) [Col.ints IntKind.i64 fun (x : Nat) => m]) false])) (∃ (x' : Nat), (x' ≤ p.size ∧ plainTo p x') ∧ p.size - x' < p.size - n1 ∧ ((AV.v (Value.int IntKind.i64 (IntKind.i64.wrap ((↑n1 : Int) + (1 : Int))))).den = (AV.v (Value.int IntKind.i64 (↑x' : Int))).den ∧ (AV.v (Value.string p)).den = (AV.v (Value.string p)).den ∧ (AV.v (Value.string s)).den = (AV.v (Value.string s)).den ∧ (AV.v (Value.int IntKind.i64 from_)).den = (AV.v (Value.int IntKind.i64 from_)).den ∧ True) ∧ LeH [Blk.mk (0 : Nat) (Cont.view (0 : Nat) (1 : Nat) [Col.ints IntKind.i64 fun (x : Nat) => m]) false] [Blk.mk (0 : Nat) (Cont.view (0 : Nat) (1 : Nat) [Col.ints IntKind.i64 fun (x : Nat) => m]) false])))))) (from_ ≤ (9223372036854775807 : Int) ∧ from_ ≤ (9223372036854775807 : Int) ∧ br (nOf (findO p s from_) == nOf (searchO p s from_)) (br (cOf (findO p s from_) == cOf (searchO p s from_)) (True ∧ R (AV.v (Value.bool true))) (R (AV.v (Value.bool false)))) (R (AV.v (Value.bool false)))))))) : LC Try.prog 6 [.v (.string p), .v (.string s), .v (.int .i64 from_)] [gB m] (fun z_ _ => R z_) :=
  lc_of_exec (tbl := w1) tab_ok w1_ok mixed (fun _ T H => .inv Nat (fun i => ((7, .v (.int .i64 (i : Int))) :: keepT [0, 1, 2] T, H)) (fun i => i ≤ p.size ∧ plainTo p i) (fun i => p.size - i)) 2 _ Try.func6 rfl Try.ntmps6 (by decide) (by kernel_rfl) (Nat.le_of_ble_eq_true rfl) (@Eq.mpr (execN tab w1 (fun _ T H => .inv Nat (fun i => ((7, .v (.int .i64 (i : Int))) :: keepT [0, 1, 2] T, H)) (fun i => i ≤ p.size ∧ plainTo p i) (fun i => p.size - i)) 2 Try.f6.ntmps [] none 0 (body Try.f6) (argsT [.v (.string p), .v (.string s), .v (.int .i64 from_)] 0) [gB m] (post Try.f6 tab (retK (fun z_ _ => R z_)))) _ (by kernel_rfl) h)


theorem turns_law (m : Int) (p s : ByteArray) (from_ : Int) (hp : p.size ≤ 140737488351232) (hs : s.size ≤ 140737488351232) (h2 : -9223372036854775808 ≤ from_ ∧ from_ ≤ 9223372036854775807) :
    LC Try.prog 6 [.v (.string p), .v (.string s), .v (.int .i64 from_)] [gB m] (fun z _ => z = .v (.bool true)) :=
  turns_vc m p s from_ (by
    have be : ∀ (i : Nat) (k : UInt8), (byteAt p i = (k.toNat : Int)) ↔ bAt p i = k := fun i k => by
      rw [byteAt_eq]
      exact ⟨fun h => UInt8.toNat_inj.1 (by omega), fun h => by rw [h]⟩
    have b1 : ∀ i, (byteAt p i = 126) ↔ bAt p i = 126 := fun i => be i 126
    have b2 : ∀ i, (byteAt p i = 63) ↔ bAt p i = 63 := fun i => be i 63
    have b3 : ∀ i, (byteAt p i = 42) ↔ bAt p i = 42 := fun i => be i 42
    simp only [true_and, and_true, br_iff, Bool.not_eq_true', Bool.not_eq_false', decide_eq_true_eq, decide_eq_false_iff_not, ge_iff_le, gt_iff_lt, beq_iff_eq, beq_eq_false_iff_ne, AV.den, Value.int.injEq, Int.toNat_natCast, implies_true, ne_eq]
    intro h1 h3
    refine ⟨⟨0, ⟨by omega, ⟨fun j hj => by omega⟩⟩, rfl, LeH.refl _⟩, fun i hi => ⟨fun h => ?_, fun h => ?_⟩⟩
    · obtain ⟨i1, i2⟩ := hi
      have e1 : IntKind.i64.wrap ((i : Int) + 1) = ((i + 1 : Nat) : Int) := by rw [w64 (by omega)]; omega
      have hb : 0 ≤ (i : Int) ∧ (i : Int) < (p.size : Int) := ⟨by omega, h⟩
      have bd := bAt_lt p i
      have nx : byteAt p i ≠ 63 → byteAt p i ≠ 42 → byteAt p i ≠ 126 → ¬ (65 ≤ byteAt p i ∧ byteAt p i ≤ 90) → ¬ (97 ≤ byteAt p i ∧ byteAt p i ≤ 122) → plainTo p (i + 1) := fun c1 c2 c3 c4 c5 => ⟨fun j hj => by
        by_cases hji : j = i
        · subst hji
          rw [byteAt_eq] at c4 c5
          exact ⟨fun e => c1 ((be _ 63).2 e), fun e => c2 ((be _ 42).2 e), fun e => c3 ((be _ 126).2 e), fun e => c4 ⟨by omega, by omega⟩, fun e => c5 ⟨by omega, by omega⟩⟩
        · exact i2.get j (by omega)⟩
      simp only [e1, eq_true hb, true_and]
      refine fun c1 c2 c3 => ⟨fun c4 c5 => ⟨fun c6 c7 => ⟨i + 1, ⟨by omega, nx c1 c2 c3 (by omega) (by omega)⟩, by omega, rfl, LeH.refl _⟩, fun c6 => ⟨i + 1, ⟨by omega, nx c1 c2 c3 (by omega) (by omega)⟩, by omega, rfl, LeH.refl _⟩⟩, fun c4 => ⟨fun c6 c7 => ⟨i + 1, ⟨by omega, nx c1 c2 c3 (by omega) (by omega)⟩, by omega, rfl, LeH.refl _⟩, fun c6 => ⟨i + 1, ⟨by omega, nx c1 c2 c3 (by omega) (by omega)⟩, by omega, rfl, LeH.refl _⟩⟩⟩
    · have e : i = p.size := by omega
      subst e
      rw [search_find hi.2]
      exact ⟨h2.2, h2.2, fun _ h => absurd rfl h, fun h => absurd rfl h⟩)
end Go.Proofs.Ytgafgejkijbmpaa

