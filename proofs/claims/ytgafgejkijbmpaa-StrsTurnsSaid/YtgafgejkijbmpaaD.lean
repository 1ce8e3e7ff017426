/- Strs: laws of parts. -/
import Derived.Test.YtgafgejkijbmpaaC
namespace Go.Eng

/-- The whole number in a slot. -/
def intA : Option AV → Int
  | some (.v (.int _ n)) => n
  | _ => 0

end Go.Eng
namespace Go.Sp
open Go.Eng

theorem findO_some {p s : ByteArray} {from_ k : Int} (h : findO p s from_ = some k) : ∃ i : Nat, k = (i : Int) + 1 ∧ from_ - 1 ≤ i ∧ i + p.size ≤ s.size ∧ Lib.occAt s.data.toList p.data.toList i = true ∧ ∀ j : Nat, from_ - 1 ≤ (j : Int) → j < i → Lib.occAt s.data.toList p.data.toList j = false := by
  unfold findO at h
  split at h
  · rename_i hc
    split at h
    · rename_i hi
      cases h
      rcases Lib.index_spec (s.data.toList.drop (from_ - 1).toNat) p.data.toList with ⟨h1, _⟩ | ⟨i, h1, h2, h3, h4⟩
      · omega
      · rw [List.length_drop, size_data] at h2
        rw [occAt_drop] at h3
        refine ⟨(from_ - 1).toNat + i, by omega, by omega, ?_, h3, fun j h5 h6 => ?_⟩
        · exact occAt_room h3 (by omega)
        · have := h4 (j - (from_ - 1).toNat) (by omega)
          rw [occAt_drop, show (from_ - 1).toNat + (j - (from_ - 1).toNat) = j by omega] at this
          exact this
    · cases h
  · cases h

theorem findO_no {p s : ByteArray} {from_ : Int} (h : findO p s from_ = none) (h1 : p.size ≤ 255) (h2 : s.size ≤ 255) (h3 : 1 ≤ from_) (h4 : from_ ≤ s.size + 1) : ∀ j : Nat, from_ - 1 ≤ (j : Int) → j ≤ s.size → Lib.occAt s.data.toList p.data.toList j = false := by
  rw [show findO p s from_ = _ from if_pos ⟨by omega, by omega, by omega, by omega⟩] at h
  split at h
  · cases h
  · rename_i hi
    intro j h5 h6
    rcases Lib.index_spec (s.data.toList.drop (from_ - 1).toNat) p.data.toList with ⟨_, g2⟩ | ⟨i, g1, _⟩
    · have := g2 (j - (from_ - 1).toNat) (by rw [List.length_drop, size_data]; omega)
      rw [occAt_drop, show (from_ - 1).toNat + (j - (from_ - 1).toNat) = j by omega] at this
      exact this
    · omega

end Go.Sp
namespace Go.Proofs.Ytgafgejkijbmpaa
open Go Go.Eng Go.Sp
set_option linter.unusedVariables false
set_option linter.unusedSimpArgs false

def d1 : Tbl := (14, .gen (glH livesH)) :: (22, .pure leftH) :: (24, .pure rightH) :: (21, .pre midH) :: (17, .pre replH) :: (12, .gen (glH findH)) :: (23, .pure rleftH) :: (25, .pure rrightH) :: (26, .pre rmidH) :: (18, .pre rreplH) :: (13, .pure rfindH) :: []

theorem d1_ok : TblOk Try.prog d1 := ⟨lives_ok, left_ok, right_ok, mid_ok, repl_ok, find_ok, rleft_ok, rright_ok, rmid_ok, rrepl_ok, rfind_ok, trivial⟩


set_option maxRecDepth 100000 in
theorem parts_vc (m : Int) (s : ByteArray) (at_ n : Int) {R : AV → Prop} (h : (at_ ≤ (9223372036854775807 : Int) ∧ at_ ≤ (9223372036854775807 : Int) ∧ br (eqS (sOf (leftO s n)) (sOf (leftO s n))) (br (cOf (leftO s n) == cOf (leftO s n)) (br (eqS (sOf (rightO s n)) (sOf (rightO s n))) (br (cOf (rightO s n) == cOf (rightO s n)) (br (eqS (sOf (midO s at_ n)) (sOf (midO s at_ n))) (br (cOf (midO s at_ n) == cOf (midO s at_ n)) (True ∧ R (AV.v (Value.bool true))) (R (AV.v (Value.bool false)))) (R (AV.v (Value.bool false)))) (R (AV.v (Value.bool false)))) (R (AV.v (Value.bool false)))) (R (AV.v (Value.bool false)))) (R (AV.v (Value.bool false))))) : LC Try.prog 8 [.v (.string s), .v (.int .i64 at_), .v (.int .i64 n)] [gB m] (fun z_ _ => R z_) :=
  lc_of_exec (tbl := d1) tab_ok d1_ok mixed noinv 2 _ Try.func8 rfl Try.ntmps8 (by decide) (by kernel_rfl) (Nat.le_of_ble_eq_true rfl) (@Eq.mpr (execN tab d1 noinv 2 Try.f8.ntmps [] none 0 (body Try.f8) (argsT [.v (.string s), .v (.int .i64 at_), .v (.int .i64 n)] 0) [gB m] (post Try.f8 tab (retK (fun z_ _ => R z_)))) _ (by kernel_rfl) h)


theorem parts_law (m : Int) (s : ByteArray) (at_ n : Int) (hs : s.size ≤ 140737488351232) (h1 : -9223372036854775808 ≤ at_ ∧ at_ ≤ 9223372036854775807) (h2 : -9223372036854775808 ≤ n ∧ n ≤ 9223372036854775807) : LC Try.prog 8 [.v (.string s), .v (.int .i64 at_), .v (.int .i64 n)] [gB m] (fun z _ => z = .v (.bool true)) :=
  parts_vc m s at_ n (by
    simp [eqS_refl, br_iff]; omega)


set_option maxRecDepth 100000 in
theorem whole_vc (m : Int) (s : ByteArray) (n : Int) {R : AV → Prop} (h : (br (decide ((↑s.size : Int) > (255 : Int))) (br (decide ((↑s.size : Int) > (255 : Int))) (br ((cOf (leftO s n) == (2 : Int)) == true) (True ∧ R (AV.v (Value.bool true))) (R (AV.v (Value.bool false)))) (br ((cOf (leftO s n) == (2 : Int)) == decide (n < (0 : Int))) (True ∧ R (AV.v (Value.bool true))) (R (AV.v (Value.bool false))))) (br (decide (n < (0 : Int))) (br (decide ((↑s.size : Int) > (255 : Int))) (br ((cOf (leftO s n) == (2 : Int)) == true) (True ∧ R (AV.v (Value.bool true))) (R (AV.v (Value.bool false)))) (br ((cOf (leftO s n) == (2 : Int)) == decide (n < (0 : Int))) (True ∧ R (AV.v (Value.bool true))) (R (AV.v (Value.bool false))))) (br (decide (n > (255 : Int))) (br (decide ((↑s.size : Int) > (255 : Int))) (br ((cOf (leftO s n) == (2 : Int)) == true) (True ∧ R (AV.v (Value.bool true))) (R (AV.v (Value.bool false)))) (br ((cOf (leftO s n) == (2 : Int)) == decide (n < (0 : Int))) (True ∧ R (AV.v (Value.bool true))) (R (AV.v (Value.bool false))))) (IntKind.i64.wrap (n + (1 : Int)) ≤ (9223372036854775807 : Int) ∧ (sOf (leftO s n)).size + (sOf (rightO s (IntKind.i64.wrap ((↑s.size : Int) - (↑(sOf (leftO s n)).size : Int))))).size ≤ (9223372036854775807 : Nat) ∧ br (eqS (catS (sOf (leftO s n)) (sOf (rightO s (IntKind.i64.wrap ((↑s.size : Int) - (↑(sOf (leftO s n)).size : Int)))))) s) (br (eqS (sOf (midO s (IntKind.i64.wrap (n + (1 : Int))) (255 : Int))) (sOf (rightO s (IntKind.i64.wrap ((↑s.size : Int) - (↑(sOf (leftO s n)).size : Int)))))) (br (cOf (leftO s n) == (0 : Int)) (br (cOf (rightO s (IntKind.i64.wrap ((↑s.size : Int) - (↑(sOf (leftO s n)).size : Int)))) == (0 : Int)) (br (cOf (midO s (IntKind.i64.wrap (n + (1 : Int))) (255 : Int)) == (0 : Int)) (True ∧ R (AV.v (Value.bool true))) (R (AV.v (Value.bool false)))) (R (AV.v (Value.bool false)))) (R (AV.v (Value.bool false)))) (R (AV.v (Value.bool false)))) (R (AV.v (Value.bool false)))))))) : LC Try.prog 9 [.v (.string s), .v (.int .i64 n)] [gB m] (fun z_ _ => R z_) :=
  lc_of_exec (tbl := d1) tab_ok d1_ok mixed noinv 2 _ Try.func9 rfl Try.ntmps9 (by decide) (by kernel_rfl) (Nat.le_of_ble_eq_true rfl) (@Eq.mpr (execN tab d1 noinv 2 Try.f9.ntmps [] none 0 (body Try.f9) (argsT [.v (.string s), .v (.int .i64 n)] 0) [gB m] (post Try.f9 tab (retK (fun z_ _ => R z_)))) _ (by kernel_rfl) h)


theorem whole_law (m : Int) (s : ByteArray) (n : Int) (hs : s.size ≤ 140737488351232) (h2 : -9223372036854775808 ≤ n ∧ n ≤ 9223372036854775807) : LC Try.prog 9 [.v (.string s), .v (.int .i64 n)] [gB m] (fun z _ => z = .v (.bool true)) :=
  whole_vc m s n (by
    by_cases hb : s.size ≤ 255 ∧ 0 ≤ n ∧ n ≤ 255
    · have e1 : leftO s n = some (subS s 0 (lo n s.size).toNat) := if_pos ⟨hb.1, hb.2.1⟩
      have hl := lo_le n s.size
      have hn := lo_nn (a := n) (b := s.size) (by omega) (by omega)
      have z1 : (subS s 0 (lo n s.size).toNat).size = (lo n s.size).toNat := by rw [size_subS]; omega
      have e2 : IntKind.i64.wrap ((s.size : Int) - ((lo n s.size).toNat : Int)) = s.size - lo n s.size := by rw [w64 (by omega)]; omega
      have f1 : lo (s.size - lo n s.size) s.size = s.size - lo n s.size := by simp only [lo]; split <;> split <;> omega
      have e3 : rightO s (s.size - lo n s.size) = some (subS s (lo n s.size).toNat s.size) := by
        rw [show rightO s (s.size - lo n s.size) = _ from if_pos ⟨hb.1, by omega⟩, f1, show ((s.size : Int) - (s.size - lo n s.size)).toNat = (lo n s.size).toNat by omega]
      have e4 : IntKind.i64.wrap (n + 1) = n + 1 := w64 (by omega)
      have f2 : lo (n + 1 - 1) s.size + lo 255 (s.size - lo (n + 1 - 1) s.size) = s.size := by simp only [lo]; split <;> split <;> omega
      have e5 : midO s (n + 1) 255 = some (subS s (lo n s.size).toNat s.size) := by
        rw [show midO s (n + 1) 255 = _ from if_pos ⟨hb.1, by omega, by omega⟩, f2, show n + 1 - 1 = n by omega, show ((s.size : Int)).toNat = s.size by omega]
      have e6 : catS (subS s 0 (lo n s.size).toNat) (subS s (lo n s.size).toNat s.size) = s := by
        rw [catS, subS, subS, data_mkS, data_mkS, List.drop_zero, Nat.sub_zero, List.take_of_length_le (l := s.data.toList.drop _) (by rw [List.length_drop, size_data]; exact Nat.le_refl _), List.take_append_drop, mkS_toList]
      have z2 : (subS s (lo n s.size).toNat s.size).size ≤ s.size := by rw [size_subS]; omega
      simp only [e1, sOf, cOf, z1, e2, e3, e4, e5, e6, eqS_refl]
      simp [br_iff]
      omega
    · have e1 : cOf (leftO s n) = if s.size ≤ 255 ∧ 0 ≤ n then 0 else 2 := by unfold leftO; split <;> rfl
      simp only [e1]
      simp [br_iff]
      refine ⟨?_, ?_⟩ <;> intros <;> (try split) <;> simp_all <;> omega)


set_option maxRecDepth 100000 in
theorem put_vc (m : Int) (s : ByteArray) (at_ n : Int) (t : ByteArray) {R : AV → Prop} (h : (br (decide ((↑s.size : Int) > (100 : Int))) (True ∧ R (AV.v (Value.bool true))) (br (decide ((↑t.size : Int) > (100 : Int))) (True ∧ R (AV.v (Value.bool true))) (br (decide (at_ < (1 : Int))) (True ∧ R (AV.v (Value.bool true))) (br (decide (at_ > IntKind.i64.wrap ((↑s.size : Int) + (1 : Int)))) (True ∧ R (AV.v (Value.bool true))) (br (decide (n < (0 : Int))) (True ∧ R (AV.v (Value.bool true))) (br (decide (n > (200 : Int))) (True ∧ R (AV.v (Value.bool true))) (at_ ≤ (9223372036854775807 : Int) ∧ at_ ≤ (9223372036854775807 : Int) ∧ at_ ≤ (9223372036854775807 : Int) ∧ br (cOf (replO s at_ n t) == (0 : Int)) (br (eqS (sOf (midO (sOf (replO s at_ n t)) at_ (↑t.size : Int))) t) (br (cOf (midO (sOf (replO s at_ n t)) at_ (↑t.size : Int)) == (0 : Int)) (br (eqS (sOf (replO s at_ (0 : Int) (ByteArray.mk #[]))) s) (br (cOf (replO s at_ (0 : Int) (ByteArray.mk #[])) == (0 : Int)) (br (eqS (sOf (leftO (sOf (replO s at_ n t)) (IntKind.i64.wrap (at_ - (1 : Int))))) (sOf (leftO s (IntKind.i64.wrap (at_ - (1 : Int)))))) (br (cOf (leftO (sOf (replO s at_ n t)) (IntKind.i64.wrap (at_ - (1 : Int)))) == (0 : Int)) (br (cOf (leftO s (IntKind.i64.wrap (at_ - (1 : Int)))) == (0 : Int)) (br ((↑(sOf (replO s at_ n t)).size : Int) == IntKind.i64.wrap (IntKind.i64.wrap ((↑s.size : Int) - if IntKind.i64.wrap (IntKind.i64.wrap ((↑s.size : Int) - at_) + (1 : Int)) < n then IntKind.i64.wrap (IntKind.i64.wrap ((↑s.size : Int) - at_) + (1 : Int)) else n) + (↑t.size : Int))) (True ∧ R (AV.v (Value.bool true))) (R (AV.v (Value.bool false)))) (R (AV.v (Value.bool false)))) (R (AV.v (Value.bool false)))) (R (AV.v (Value.bool false)))) (R (AV.v (Value.bool false)))) (R (AV.v (Value.bool false)))) (R (AV.v (Value.bool false)))) (R (AV.v (Value.bool false)))) (R (AV.v (Value.bool false))))))))))) : LC Try.prog 7 [.v (.string s), .v (.int .i64 at_), .v (.int .i64 n), .v (.string t)] [gB m] (fun z_ _ => R z_) :=
  lc_of_exec (tbl := d1) tab_ok d1_ok mixed noinv 2 _ Try.func7 rfl Try.ntmps7 (by decide) (by kernel_rfl) (Nat.le_of_ble_eq_true rfl) (@Eq.mpr (execN tab d1 noinv 2 Try.f7.ntmps [] none 0 (body Try.f7) (argsT [.v (.string s), .v (.int .i64 at_), .v (.int .i64 n), .v (.string t)] 0) [gB m] (post Try.f7 tab (retK (fun z_ _ => R z_)))) _ (by kernel_rfl) h)


theorem put_law (m : Int) (s : ByteArray) (at_ n : Int) (t : ByteArray) (hs : s.size ≤ 140737488351232) (h1 : -9223372036854775808 ≤ at_ ∧ at_ ≤ 9223372036854775807) (h2 : -9223372036854775808 ≤ n ∧ n ≤ 9223372036854775807) (ht : t.size ≤ 140737488351232) :
    LC Try.prog 7 [.v (.string s), .v (.int .i64 at_), .v (.int .i64 n), .v (.string t)] [gB m] (fun z _ => z = .v (.bool true)) :=
  put_vc m s at_ n t (by
    have e0 : IntKind.i64.wrap ((s.size : Int) + 1) = s.size + 1 := w64 (by omega)
    simp only [br_iff, decide_eq_true_eq, decide_eq_false_iff_not, true_and, and_true, e0, gt_iff_lt, beq_iff_eq, beq_eq_false_iff_ne]
    refine ⟨fun _ => trivial, fun g1 => ⟨fun _ => trivial, fun g2 => ⟨fun _ => trivial, fun g3 => ⟨fun _ => trivial, fun g4 => ⟨fun _ => trivial, fun g5 => ⟨fun _ => trivial, fun g6 => ?_⟩⟩⟩⟩⟩⟩
    have e1 : IntKind.i64.wrap (at_ - 1) = at_ - 1 := w64 (by omega)
    have e2 : IntKind.i64.wrap ((s.size : Int) - at_) = s.size - at_ := w64 (by omega)
    have e3 : IntKind.i64.wrap ((s.size : Int) - at_ + 1) = s.size - at_ + 1 := w64 (by omega)
    have k1 : lo (at_ - 1) s.size = at_ - 1 := by simp only [lo]; split <;> omega
    -- what is put
    have hl := lo_le n (s.size - (at_ - 1))
    have hn := lo_nn (a := n) (b := s.size - (at_ - 1)) (by omega) (by omega)
    have r0 : ∀ (q : Int) (u : ByteArray), 0 ≤ q → q ≤ 200 → u.size ≤ 100 → replO s at_ q u = some (catS (catS (subS s 0 (at_ - 1).toNat) u) (subS s (at_ - 1 + lo q (s.size - (at_ - 1))).toNat s.size)) := by
      intro q u q1 q2 q3
      have hl' := lo_le q (s.size - (at_ - 1))
      have hn' := lo_nn (a := q) (b := s.size - (at_ - 1)) (by omega) (by omega)
      rw [show replO s at_ q u = _ from if_pos ⟨by omega, by omega, by omega, by omega⟩, k1]
      refine if_pos ?_
      rw [size_catS, size_catS, size_subS, size_subS]; omega
    have f1 : (if s.size - at_ + 1 < n then (s.size : Int) - at_ + 1 else n) = lo n (s.size - (at_ - 1)) := by simp only [lo]; split <;> split <;> omega
    rw [r0 n t (by omega) (by omega) (by omega), r0 0 (ByteArray.mk #[]) (by omega) (by omega) (by decide)]
    simp only [sOf, cOf, e1, e2, e3, f1]
    generalize hq : lo n (s.size - (at_ - 1)) = q at *
    generalize ha : (at_ - 1).toNat = a
    have hz0 : (subS s 0 a).size = a := by rw [size_subS]; omega
    have hz1 : (subS s (at_ - 1 + q).toNat s.size).size = s.size - (at_ - 1 + q).toNat := by rw [size_subS]; omega
    have hz : (catS (catS (subS s 0 a) t) (subS s (at_ - 1 + q).toNat s.size)).size = a + t.size + (s.size - (at_ - 1 + q).toNat) := by rw [size_catS, size_catS, hz0, hz1]
    have m1 : midO (catS (catS (subS s 0 a) t) (subS s (at_ - 1 + q).toNat s.size)) at_ t.size = some t := by
      rw [show midO _ at_ (t.size : Int) = _ from if_pos ⟨by rw [hz]; omega, by omega, by omega⟩]
      have p1 : lo (at_ - 1) ((catS (catS (subS s 0 a) t) (subS s (at_ - 1 + q).toNat s.size)).size : Nat) = at_ - 1 := by rw [hz]; simp only [lo]; split <;> omega
      have p2 : lo t.size (((catS (catS (subS s 0 a) t) (subS s (at_ - 1 + q).toNat s.size)).size : Nat) - (at_ - 1)) = t.size := by rw [hz]; simp only [lo]; split <;> omega
      rw [p1, p2, ha, show (at_ - 1 + (t.size : Int)).toNat = a + t.size by omega]
      congr 1
      have l0 : (subS s 0 a).data.toList.length = a := by rw [size_data, hz0]
      simp only [catS, data_mkS]
      rw [subS, data_mkS, List.append_assoc, List.drop_append, List.drop_eq_nil_of_le (by omega), l0, Nat.sub_self, List.drop_zero, List.nil_append, show a + t.size - a = t.data.toList.length by rw [size_data]; omega, List.take_left', mkS_toList]
      rfl
    have l1 : leftO (catS (catS (subS s 0 a) t) (subS s (at_ - 1 + q).toNat s.size)) (at_ - 1) = some (subS s 0 a) := by
      rw [show leftO _ (at_ - 1) = _ from if_pos ⟨by rw [hz]; omega, by omega⟩]
      have p1 : lo (at_ - 1) ((catS (catS (subS s 0 a) t) (subS s (at_ - 1 + q).toNat s.size)).size : Nat) = at_ - 1 := by rw [hz]; simp only [lo]; split <;> omega
      rw [p1, ha]
      congr 1
      have l0 : (subS s 0 a).data.toList.length = a := by rw [size_data, hz0]
      rw [subS]
      simp only [catS, data_mkS, List.drop_zero, Nat.sub_zero]
      rw [List.append_assoc, List.take_left' l0, mkS_toList]
    have l2 : leftO s (at_ - 1) = some (subS s 0 a) := by
      rw [show leftO s (at_ - 1) = _ from if_pos ⟨by omega, by omega⟩, k1, ha]
    have c0 : catS (catS (subS s 0 a) (ByteArray.mk #[])) (subS s (at_ - 1 + lo 0 (s.size - (at_ - 1))).toNat s.size) = s := by
      have p0 : lo 0 (s.size - (at_ - 1)) = 0 := by simp only [lo]; split <;> omega
      rw [p0, Int.add_zero, ha]
      simp only [catS, data_mkS, List.append_nil]
      rw [subS, subS]
      simp only [data_mkS, List.drop_zero, Nat.sub_zero]
      rw [List.take_of_length_le (l := s.data.toList.drop _) (by rw [List.length_drop, size_data]; exact Nat.le_refl _)]
      simp [mkS_toList]
    rw [m1, l1, l2, c0, hz]
    simp only [eqS_refl]
    have e4 : IntKind.i64.wrap ((s.size : Int) - q) = s.size - q := w64 (by omega)
    have e5 : IntKind.i64.wrap ((s.size : Int) - q + t.size) = s.size - q + t.size := w64 (by omega)
    rw [e4, e5]
    refine ⟨by omega, by omega, by omega, ?_⟩
    simp
    omega)


set_option maxRecDepth 100000 in
theorem found_vc (m : Int) (p s : ByteArray) (from_ : Int) {R : AV → Prop} (h : (br (decide ((↑p.size : Int) > (100 : Int))) (True ∧ R (AV.v (Value.bool true))) (br (decide ((↑s.size : Int) > (255 : Int))) (True ∧ R (AV.v (Value.bool true))) (br (decide (from_ < (1 : Int))) (True ∧ R (AV.v (Value.bool true))) (br (decide (from_ > IntKind.i64.wrap ((↑s.size : Int) + (1 : Int)))) (True ∧ R (AV.v (Value.bool true))) (from_ ≤ (9223372036854775807 : Int) ∧ br (cOf (findO p s from_) == (0 : Int)) (nOf (findO p s from_) ≤ (9223372036854775807 : Int) ∧ br (decide (nOf (findO p s from_) < from_)) (R (AV.v (Value.bool false))) (br (decide (nOf (findO p s from_) > IntKind.i64.wrap ((↑s.size : Int) + (1 : Int)))) (R (AV.v (Value.bool false))) (br (!eqS (sOf (midO s (nOf (findO p s from_)) (↑p.size : Int))) p) (R (AV.v (Value.bool false))) (br (cOf (midO s (nOf (findO p s from_)) (↑p.size : Int)) != (0 : Int)) (R (AV.v (Value.bool false))) ((∃ (x : Nat), (from_ ≤ (↑x : Int) ∧ ((↑x : Int) ≤ nOf (findO p s from_) ∨ (↑x : Int) = from_)) ∧ ((AV.v (Value.int IntKind.i64 from_)).den = (AV.v (Value.int IntKind.i64 (↑x : Int))).den ∧ (AV.v (Value.string p)).den = (AV.v (Value.string p)).den ∧ (AV.v (Value.string s)).den = (AV.v (Value.string s)).den ∧ (AV.v (Value.int IntKind.i64 (cOf (findO p s from_)))).den = (AV.v (Value.int IntKind.i64 (cOf (findO p s from_)))).den ∧ (AV.v (Value.int IntKind.i64 (nOf (findO p s from_)))).den = (AV.v (Value.int IntKind.i64 (nOf (findO p s from_)))).den ∧ True) ∧ LeH [Blk.mk (0 : Nat) (Cont.view (0 : Nat) (1 : Nat) [Col.ints IntKind.i64 fun (x : Nat) => m]) false] [Blk.mk (0 : Nat) (Cont.view (0 : Nat) (1 : Nat) [Col.ints IntKind.i64 fun (x : Nat) => m]) false]) ∧ ∀ (n1 : Nat), from_ ≤ (↑n1 : Int) ∧ ((↑n1 : Int) ≤ nOf (findO p s from_) ∨ (↑n1 : Int) = from_) → br (decide ((↑n1 : Int) < nOf (findO p s from_))) (br (decide (IntKind.i64.wrap (IntKind.i64.wrap ((↑n1 : Int) - (1 : Int)) + (↑p.size : Int)) ≤ (↑s.size : Int))) (((0 : Int) ≤ IntKind.i64.wrap (IntKind.i64.wrap ((↑n1 : Int) - (1 : Int)) + (↑p.size : Int)) ∧ IntKind.i64.wrap (IntKind.i64.wrap ((↑n1 : Int) - (1 : Int)) + (↑p.size : Int)) ≤ (↑s.size : Int)) ∧ ((0 : Int) ≤ IntKind.i64.wrap ((↑n1 : Int) - (1 : Int)) ∧ IntKind.i64.wrap ((↑n1 : Int) - (1 : Int)) ≤ IntKind.i64.wrap (IntKind.i64.wrap ((↑n1 : Int) - (1 : Int)) + (↑p.size : Int))) ∧ br (eqS (subS s (IntKind.i64.wrap ((↑n1 : Int) - (1 : Int))).toNat (IntKind.i64.wrap (IntKind.i64.wrap ((↑n1 : Int) - (1 : Int)) + (↑p.size : Int))).toNat) p) (R (AV.v (Value.bool false))) (∃ (x' : Nat), (from_ ≤ (↑x' : Int) ∧ ((↑x' : Int) ≤ nOf (findO p s from_) ∨ (↑x' : Int) = from_)) ∧ (nOf (findO p s from_) - (↑x' : Int)).toNat < (nOf (findO p s from_) - (↑n1 : Int)).toNat ∧ ((AV.v (Value.int IntKind.i64 (IntKind.i64.wrap ((↑n1 : Int) + (1 : Int))))).den = (AV.v (Value.int IntKind.i64 (↑x' : Int))).den ∧ (AV.v (Value.string p)).den = (AV.v (Value.string p)).den ∧ (AV.v (Value.string s)).den = (AV.v (Value.string s)).den ∧ (AV.v (Value.int IntKind.i64 (cOf (findO p s from_)))).den = (AV.v (Value.int IntKind.i64 (cOf (findO p s from_)))).den ∧ (AV.v (Value.int IntKind.i64 (nOf (findO p s from_)))).den = (AV.v (Value.int IntKind.i64 (nOf (findO p s from_)))).den ∧ True) ∧ LeH [Blk.mk (0 : Nat) (Cont.view (0 : Nat) (1 : Nat) [Col.ints IntKind.i64 fun (x : Nat) => m]) false] [Blk.mk (0 : Nat) (Cont.view (0 : Nat) (1 : Nat) [Col.ints IntKind.i64 fun (x : Nat) => m]) false])) (∃ (x' : Nat), (from_ ≤ (↑x' : Int) ∧ ((↑x' : Int) ≤ nOf (findO p s from_) ∨ (↑x' : Int) = from_)) ∧ (nOf (findO p s from_) - (↑x' : Int)).toNat < (nOf (findO p s from_) - (↑n1 : Int)).toNat ∧ ((AV.v (Value.int IntKind.i64 (IntKind.i64.wrap ((↑n1 : Int) + (1 : Int))))).den = (AV.v (Value.int IntKind.i64 (↑x' : Int))).den ∧ (AV.v (Value.string p)).den = (AV.v (Value.string p)).den ∧ (AV.v (Value.string s)).den = (AV.v (Value.string s)).den ∧ (AV.v (Value.int IntKind.i64 (cOf (findO p s from_)))).den = (AV.v (Value.int IntKind.i64 (cOf (findO p s from_)))).den ∧ (AV.v (Value.int IntKind.i64 (nOf (findO p s from_)))).den = (AV.v (Value.int IntKind.i64 (nOf (findO p s from_)))).den ∧ True) ∧ LeH [Blk.mk (0 : Nat) (Cont.view (0 : Nat) (1 : Nat) [Col.ints IntKind.i64 fun (x : Nat) => m]) false] [Blk.mk (0 : Nat) (Cont.view (0 : Nat) (1 : Nat) [Col.ints IntKind.i64 fun (x : Nat) => m]) false])) (br (cOf (findO p s from_) == (0 : Int)) (True ∧ R (AV.v (Value.bool true))) (br (cOf (findO p s from_) == (2 : Int)) (True ∧ R (AV.v (Value.bool true))) (R (AV.v (Value.bool false)))))))))) ((∃ (x : Nat), (from_ ≤ (↑x : Int) ∧ ((↑x : Int) ≤ IntKind.i64.wrap ((↑s.size : Int) + (1 : Int)) ∨ (↑x : Int) = from_)) ∧ ((AV.v (Value.int IntKind.i64 from_)).den = (AV.v (Value.int IntKind.i64 (↑x : Int))).den ∧ (AV.v (Value.string p)).den = (AV.v (Value.string p)).den ∧ (AV.v (Value.string s)).den = (AV.v (Value.string s)).den ∧ (AV.v (Value.int IntKind.i64 (cOf (findO p s from_)))).den = (AV.v (Value.int IntKind.i64 (cOf (findO p s from_)))).den ∧ (AV.v (Value.int IntKind.i64 (IntKind.i64.wrap ((↑s.size : Int) + (1 : Int))))).den = (AV.v (Value.int IntKind.i64 (IntKind.i64.wrap ((↑s.size : Int) + (1 : Int))))).den ∧ True) ∧ LeH [Blk.mk (0 : Nat) (Cont.view (0 : Nat) (1 : Nat) [Col.ints IntKind.i64 fun (x : Nat) => m]) false] [Blk.mk (0 : Nat) (Cont.view (0 : Nat) (1 : Nat) [Col.ints IntKind.i64 fun (x : Nat) => m]) false]) ∧ ∀ (n1 : Nat), from_ ≤ (↑n1 : Int) ∧ ((↑n1 : Int) ≤ IntKind.i64.wrap ((↑s.size : Int) + (1 : Int)) ∨ (↑n1 : Int) = from_) → br (decide ((↑n1 : Int) < IntKind.i64.wrap ((↑s.size : Int) + (1 : Int)))) (br (decide (IntKind.i64.wrap (IntKind.i64.wrap ((↑n1 : Int) - (1 : Int)) + (↑p.size : Int)) ≤ (↑s.size : Int))) (((0 : Int) ≤ IntKind.i64.wrap (IntKind.i64.wrap ((↑n1 : Int) - (1 : Int)) + (↑p.size : Int)) ∧ IntKind.i64.wrap (IntKind.i64.wrap ((↑n1 : Int) - (1 : Int)) + (↑p.size : Int)) ≤ (↑s.size : Int)) ∧ ((0 : Int) ≤ IntKind.i64.wrap ((↑n1 : Int) - (1 : Int)) ∧ IntKind.i64.wrap ((↑n1 : Int) - (1 : Int)) ≤ IntKind.i64.wrap (IntKind.i64.wrap ((↑n1 : Int) - (1 : Int)) + (↑p.size : Int))) ∧ br (eqS (subS s (IntKind.i64.wrap ((↑n1 : Int) - (1 : Int))).toNat (IntKind.i64.wrap (IntKind.i64.wrap ((↑n1 : Int) - (1 : Int)) + (↑p.size : Int))).toNat) p) (R (AV.v (Value.bool false))) (∃ (x' : Nat), (from_ ≤ (↑x' : Int) ∧ ((↑x' : Int) ≤ IntKind.i64.wrap ((↑s.size : Int) + (1 : Int)) ∨ (↑x' : Int) = from_)) ∧ (IntKind.i64.wrap ((↑s.size : Int) + (1 : Int)) - (↑x' : Int)).toNat < (IntKind.i64.wrap ((↑s.size : Int) + (1 : Int)) - (↑n1 : Int)).toNat ∧ ((AV.v (Value.int IntKind.i64 (IntKind.i64.wrap ((↑n1 : Int) + (1 : Int))))).den = (AV.v (Value.int IntKind.i64 (↑x' : Int))).den ∧ (AV.v (Value.string p)).den = (AV.v (Value.string p)).den ∧ (AV.v (Value.string s)).den = (AV.v (Value.string s)).den ∧ (AV.v (Value.int IntKind.i64 (cOf (findO p s from_)))).den = (AV.v (Value.int IntKind.i64 (cOf (findO p s from_)))).den ∧ (AV.v (Value.int IntKind.i64 (IntKind.i64.wrap ((↑s.size : Int) + (1 : Int))))).den = (AV.v (Value.int IntKind.i64 (IntKind.i64.wrap ((↑s.size : Int) + (1 : Int))))).den ∧ True) ∧ LeH [Blk.mk (0 : Nat) (Cont.view (0 : Nat) (1 : Nat) [Col.ints IntKind.i64 fun (x : Nat) => m]) false] [Blk.mk (0 : Nat) (Cont.view (0 : Nat) (1 : Nat) [Col.ints IntKind.i64 fun (x : Nat) => m]) false])) (∃ (x' : Nat), (from_ ≤ (↑x' : Int) ∧ ((↑x' : Int) ≤ IntKind.i64.wrap ((↑s.size : Int) + (1 : Int)) ∨ (↑x' : Int) = from_)) ∧ (IntKind.i64.wrap ((↑s.size : Int) + (1 : Int)) - (↑x' : Int)).toNat < (IntKind.i64.wrap ((↑s.size : Int) + (1 : Int)) - (↑n1 : Int)).toNat ∧ ((AV.v (Value.int IntKind.i64 (IntKind.i64.wrap ((↑n1 : Int) + (1 : Int))))).den = (AV.v (Value.int IntKind.i64 (↑x' : Int))).den ∧ (AV.v (Value.string p)).den = (AV.v (Value.string p)).den ∧ (AV.v (Value.string s)).den = (AV.v (Value.string s)).den ∧ (AV.v (Value.int IntKind.i64 (cOf (findO p s from_)))).den = (AV.v (Value.int IntKind.i64 (cOf (findO p s from_)))).den ∧ (AV.v (Value.int IntKind.i64 (IntKind.i64.wrap ((↑s.size : Int) + (1 : Int))))).den = (AV.v (Value.int IntKind.i64 (IntKind.i64.wrap ((↑s.size : Int) + (1 : Int))))).den ∧ True) ∧ LeH [Blk.mk (0 : Nat) (Cont.view (0 : Nat) (1 : Nat) [Col.ints IntKind.i64 fun (x : Nat) => m]) false] [Blk.mk (0 : Nat) (Cont.view (0 : Nat) (1 : Nat) [Col.ints IntKind.i64 fun (x : Nat) => m]) false])) (br (cOf (findO p s from_) == (0 : Int)) (True ∧ R (AV.v (Value.bool true))) (br (cOf (findO p s from_) == (2 : Int)) (True ∧ R (AV.v (Value.bool true))) (R (AV.v (Value.bool false)))))))))))) : LC Try.prog 5 [.v (.string p), .v (.string s), .v (.int .i64 from_)] [gB m] (fun z_ _ => R z_) :=
  lc_of_exec (tbl := d1) tab_ok d1_ok mixed (fun _ T H => .inv Nat (fun i => ((12, .v (.int .i64 (i : Int))) :: keepT [0, 1, 8, 9] T, H)) (fun i => from_ ≤ (i : Int) ∧ ((i : Int) ≤ intA (T.get 9) ∨ (i : Int) = from_)) (fun i => (intA (T.get 9) - i).toNat)) 2 _ Try.func5 rfl Try.ntmps5 (by decide) (by kernel_rfl) (Nat.le_of_ble_eq_true rfl) (@Eq.mpr (execN tab d1 (fun _ T H => .inv Nat (fun i => ((12, .v (.int .i64 (i : Int))) :: keepT [0, 1, 8, 9] T, H)) (fun i => from_ ≤ (i : Int) ∧ ((i : Int) ≤ intA (T.get 9) ∨ (i : Int) = from_)) (fun i => (intA (T.get 9) - i).toNat)) 2 Try.f5.ntmps [] none 0 (body Try.f5) (argsT [.v (.string p), .v (.string s), .v (.int .i64 from_)] 0) [gB m] (post Try.f5 tab (retK (fun z_ _ => R z_)))) _ (by kernel_rfl) h)

theorem found_law (m : Int) (p s : ByteArray) (from_ : Int) (hp : p.size ≤ 140737488351232) (hs : s.size ≤ 140737488351232) (h1 : -9223372036854775808 ≤ from_ ∧ from_ ≤ 9223372036854775807) :
    LC Try.prog 5 [.v (.string p), .v (.string s), .v (.int .i64 from_)] [gB m] (fun z _ => z = .v (.bool true)) :=
  found_vc m p s from_ (by
    simp only [br_iff, decide_eq_true_eq, decide_eq_false_iff_not, true_and, and_true, gt_iff_lt, beq_iff_eq, beq_eq_false_iff_ne, AV.den, Value.int.injEq]
    refine ⟨fun _ => trivial, fun g1 => ⟨fun _ => trivial, fun g2 => ⟨fun _ => trivial, fun g3 => ?_⟩⟩⟩
    have e0 : IntKind.i64.wrap ((s.size : Int) + 1) = s.size + 1 := w64 (by omega)
    simp only [e0]
    refine ⟨fun _ => trivial, fun g4 => ⟨by omega, fun g5 => ?_, fun g5 => ?_⟩⟩
    · cases hf : findO p s from_ with
      | none => rw [hf] at g5; exact absurd g5 (by decide)
      | some k =>
        obtain ⟨i, rfl, f1, f2, f3, f4⟩ := findO_some hf
        simp only [nOf]
        have hm : midO s ((i : Int) + 1) p.size = some p := by
          rw [show midO s ((i : Int) + 1) p.size = _ from if_pos ⟨by omega, by omega, by omega⟩]
          have k1 : lo ((i : Int) + 1 - 1) s.size = i := by simp only [lo]; split <;> omega
          have k2 : lo (p.size : Int) (s.size - i) = p.size := by simp only [lo]; split <;> omega
          rw [k1, k2, Int.toNat_natCast, show ((i : Int) + p.size).toNat = i + p.size by omega]
          rw [occAt_sub f2, eqS_iff] at f3
          rw [f3]
        rw [hm]
        simp only [sOf, cOf, eqS_refl]
        refine ⟨by omega, fun h => by omega, fun _ => ⟨fun h => by omega, fun _ => ⟨fun h => absurd h (by decide), fun _ => ⟨fun h => absurd h (by decide), fun _ => ⟨⟨from_.toNat, by omega, by omega, LeH.refl _⟩, fun j hj => ⟨fun h5 => ?_, fun _ => ?_⟩⟩⟩⟩⟩⟩
        · have e1 : IntKind.i64.wrap ((j : Int) - 1) = ((j - 1 : Nat) : Int) := by rw [w64 (by omega)]; omega
          have e2 : IntKind.i64.wrap (((j - 1 : Nat) : Int) + p.size) = ((j - 1 + p.size : Nat) : Int) := by rw [w64 (by omega)]; omega
          have e3 : IntKind.i64.wrap ((j : Int) + 1) = ((j + 1 : Nat) : Int) := by rw [w64 (by omega)]; omega
          simp only [e1, e2, e3, Int.toNat_natCast]
          have nx : ∃ x' : Nat, (from_ ≤ (x' : Int) ∧ ((x' : Int) ≤ (i : Int) + 1 ∨ (x' : Int) = from_)) ∧ ((i : Int) + 1 - x').toNat < ((i : Int) + 1 - j).toNat ∧ ((j + 1 : Nat) : Int) = x' ∧ LeH [gB m] [gB m] := ⟨j + 1, by omega, by omega, rfl, LeH.refl _⟩
          refine ⟨fun h6 => ⟨by omega, by omega, fun h7 => ?_, fun _ => nx⟩, fun _ => nx⟩
          have := f4 (j - 1) (by omega) (by omega)
          rw [occAt_sub (by omega), h7] at this
          cases this
        · simp
    · cases hf : findO p s from_ with
      | some k => rw [hf] at g5; exact absurd rfl g5
      | none =>
        have f4 := findO_no hf (by omega) (by omega) (by omega) (by omega)
        simp only [cOf]
        refine ⟨⟨from_.toNat, by omega, by omega, LeH.refl _⟩, fun j hj => ⟨fun h5 => ?_, fun _ => ?_⟩⟩
        · have e1 : IntKind.i64.wrap ((j : Int) - 1) = ((j - 1 : Nat) : Int) := by rw [w64 (by omega)]; omega
          have e2 : IntKind.i64.wrap (((j - 1 : Nat) : Int) + p.size) = ((j - 1 + p.size : Nat) : Int) := by rw [w64 (by omega)]; omega
          have e3 : IntKind.i64.wrap ((j : Int) + 1) = ((j + 1 : Nat) : Int) := by rw [w64 (by omega)]; omega
          simp only [e1, e2, e3, Int.toNat_natCast]
          have nx : ∃ x' : Nat, (from_ ≤ (x' : Int) ∧ ((x' : Int) ≤ (s.size : Int) + 1 ∨ (x' : Int) = from_)) ∧ ((s.size : Int) + 1 - x').toNat < ((s.size : Int) + 1 - j).toNat ∧ ((j + 1 : Nat) : Int) = x' ∧ LeH [gB m] [gB m] := ⟨j + 1, by omega, by omega, rfl, LeH.refl _⟩
          refine ⟨fun h6 => ⟨by omega, by omega, fun h7 => ?_, fun _ => nx⟩, fun _ => nx⟩
          have := f4 (j - 1) (by omega) (by omega)
          rw [occAt_sub (by omega), h7] at this
          cases this
        · simp)
end Go.Proofs.Ytgafgejkijbmpaa

