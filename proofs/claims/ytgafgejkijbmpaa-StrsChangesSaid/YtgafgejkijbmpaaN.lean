/- Strs: Substitute. -/
import Derived.Test.YtgafgejkijbmpaaM
namespace Go.Sp
open Go.Eng

def substO (s old w : ByteArray) (n : Int) : Option ByteArray :=
  if s.size ≤ 255 ∧ old.size ≤ 255 ∧ w.size ≤ 255 ∧ 0 ≤ n then (if old.size = 0 then some s else toldO (mkS (sub1 old.data.toList w.data.toList n.toNat 0 s.data.toList))) else none

theorem drop_at {s : ByteArray} {i : Nat} (h : i < s.size) : s.data.toList.drop i = bAt s i :: s.data.toList.drop (i + 1) := by
  rw [List.drop_eq_getElem_cons (by rw [size_data]; exact h), bAt, List.getElem?_eq_getElem (by rw [size_data]; exact h)]
  rfl

theorem subst_no {s old w out : ByteArray} {k n i : Nat} {L : List UInt8} (h : i < s.size) (ho : old.size ≠ 0) (hn : Lib.occAt s.data.toList old.data.toList i = false) (hL : out.data.toList ++ sub1 old.data.toList w.data.toList k n (s.data.toList.drop i) = L) :
    (catS out (subS s i (i + 1))).data.toList ++ sub1 old.data.toList w.data.toList k n (s.data.toList.drop (i + 1)) = L := by
  have ho : old.data.toList ≠ [] := fun e => ho (by rw [← size_data, e]; rfl)
  rw [Lib.occAt, drop_at h] at hn
  rw [← hL, drop_at h, sub_no ho hn, sub_one h, catS, data_mkS, data_mkS, List.append_assoc]
  rfl

theorem subst_yes {s old w out : ByteArray} {k n i : Nat} {L : List UInt8} (ho : old.size ≠ 0) (hn : Lib.occAt s.data.toList old.data.toList i = true) (hL : out.data.toList ++ sub1 old.data.toList w.data.toList k n (s.data.toList.drop i) = L) :
    (catS out (if k = 0 ∨ n + 1 = k then w else old)).data.toList ++ sub1 old.data.toList w.data.toList k (n + 1) (s.data.toList.drop (i + old.size)) = L := by
  have ho : old.data.toList ≠ [] := fun e => ho (by rw [← size_data, e]; rfl)
  rw [← hL, sub_yes ho hn, catS, data_mkS, List.append_assoc, List.drop_drop, size_data]
  congr 2
  split <;> rfl

end Go.Sp
namespace Go.Proofs.Ytgafgejkijbmpaa
open Go Go.Eng Go.Sp
set_option linter.unusedVariables false
set_option linter.unusedSimpArgs false


set_option maxRecDepth 100000 in
theorem rsubst_vc (s old w : ByteArray) (n : Int) {R : AV → Prop} (h : (br (decide ((↑s.size : Int) > (255 : Int))) (R (AV.tup [AV.v (Value.string (ByteArray.mk #[])), AV.v (Value.int IntKind.i64 (2 : Int))])) (br (decide ((↑old.size : Int) > (255 : Int))) (R (AV.tup [AV.v (Value.string (ByteArray.mk #[])), AV.v (Value.int IntKind.i64 (2 : Int))])) (br (decide ((↑w.size : Int) > (255 : Int))) (R (AV.tup [AV.v (Value.string (ByteArray.mk #[])), AV.v (Value.int IntKind.i64 (2 : Int))])) (br (decide (n < (0 : Int))) (R (AV.tup [AV.v (Value.string (ByteArray.mk #[])), AV.v (Value.int IntKind.i64 (2 : Int))])) (br (eqS old (ByteArray.mk #[])) (R (AV.tup [AV.v (Value.string s), AV.v (Value.int IntKind.i64 (0 : Int))])) ((∃ (x : Nat × Nat × ByteArray), (x.fst ≤ s.size ∧ x.snd.fst ≤ x.fst ∧ x.snd.snd.size ≤ (255 : Nat) * x.fst ∧ x.snd.snd.data.toList ++ sub1 old.data.toList w.data.toList n.toNat x.snd.fst (List.drop x.fst s.data.toList) = sub1 old.data.toList w.data.toList n.toNat (0 : Nat) s.data.toList) ∧ ((AV.v (Value.int IntKind.i64 (0 : Int))).den = (AV.v (Value.int IntKind.i64 (↑x.fst : Int))).den ∧ (AV.v (Value.int IntKind.i64 (0 : Int))).den = (AV.v (Value.int IntKind.i64 (↑x.snd.fst : Int))).den ∧ (AV.v (Value.string (ByteArray.mk #[]))).den = (AV.v (Value.string x.snd.snd)).den ∧ (AV.v (Value.string s)).den = (AV.v (Value.string s)).den ∧ (AV.v (Value.string old)).den = (AV.v (Value.string old)).den ∧ (AV.v (Value.string w)).den = (AV.v (Value.string w)).den ∧ (AV.v (Value.int IntKind.i64 n)).den = (AV.v (Value.int IntKind.i64 n)).den ∧ True) ∧ LeH [] []) ∧ ∀ (x : Nat × Nat × ByteArray), x.fst ≤ s.size ∧ x.snd.fst ≤ x.fst ∧ x.snd.snd.size ≤ (255 : Nat) * x.fst ∧ x.snd.snd.data.toList ++ sub1 old.data.toList w.data.toList n.toNat x.snd.fst (List.drop x.fst s.data.toList) = sub1 old.data.toList w.data.toList n.toNat (0 : Nat) s.data.toList → br (decide ((↑x.fst : Int) < (↑s.size : Int))) (br (decide (IntKind.i64.wrap ((↑x.fst : Int) + (↑old.size : Int)) ≤ (↑s.size : Int))) (((0 : Int) ≤ IntKind.i64.wrap ((↑x.fst : Int) + (↑old.size : Int)) ∧ IntKind.i64.wrap ((↑x.fst : Int) + (↑old.size : Int)) ≤ (↑s.size : Int)) ∧ ((0 : Int) ≤ (↑x.fst : Int) ∧ (↑x.fst : Int) ≤ IntKind.i64.wrap ((↑x.fst : Int) + (↑old.size : Int))) ∧ br (!eqS (subS s (↑x.fst : Int).toNat (IntKind.i64.wrap ((↑x.fst : Int) + (↑old.size : Int))).toNat) old) (((0 : Int) ≤ IntKind.i64.wrap ((↑x.fst : Int) + (1 : Int)) ∧ IntKind.i64.wrap ((↑x.fst : Int) + (1 : Int)) ≤ (↑s.size : Int)) ∧ ((0 : Int) ≤ (↑x.fst : Int) ∧ (↑x.fst : Int) ≤ IntKind.i64.wrap ((↑x.fst : Int) + (1 : Int))) ∧ x.snd.snd.size + (subS s (↑x.fst : Int).toNat (IntKind.i64.wrap ((↑x.fst : Int) + (1 : Int))).toNat).size ≤ (9223372036854775807 : Nat) ∧ ∃ (x' : Nat × Nat × ByteArray), (x'.fst ≤ s.size ∧ x'.snd.fst ≤ x'.fst ∧ x'.snd.snd.size ≤ (255 : Nat) * x'.fst ∧ x'.snd.snd.data.toList ++ sub1 old.data.toList w.data.toList n.toNat x'.snd.fst (List.drop x'.fst s.data.toList) = sub1 old.data.toList w.data.toList n.toNat (0 : Nat) s.data.toList) ∧ s.size - x'.fst < s.size - x.fst ∧ ((AV.v (Value.int IntKind.i64 (IntKind.i64.wrap ((↑x.fst : Int) + (1 : Int))))).den = (AV.v (Value.int IntKind.i64 (↑x'.fst : Int))).den ∧ (AV.v (Value.int IntKind.i64 (↑x.snd.fst : Int))).den = (AV.v (Value.int IntKind.i64 (↑x'.snd.fst : Int))).den ∧ (AV.v (Value.string (catS x.snd.snd (subS s (↑x.fst : Int).toNat (IntKind.i64.wrap ((↑x.fst : Int) + (1 : Int))).toNat)))).den = (AV.v (Value.string x'.snd.snd)).den ∧ (AV.v (Value.string s)).den = (AV.v (Value.string s)).den ∧ (AV.v (Value.string old)).den = (AV.v (Value.string old)).den ∧ (AV.v (Value.string w)).den = (AV.v (Value.string w)).den ∧ (AV.v (Value.int IntKind.i64 n)).den = (AV.v (Value.int IntKind.i64 n)).den ∧ True) ∧ LeH [] []) (br (n == (0 : Int)) (x.snd.snd.size + w.size ≤ (9223372036854775807 : Nat) ∧ ∃ (x' : Nat × Nat × ByteArray), (x'.fst ≤ s.size ∧ x'.snd.fst ≤ x'.fst ∧ x'.snd.snd.size ≤ (255 : Nat) * x'.fst ∧ x'.snd.snd.data.toList ++ sub1 old.data.toList w.data.toList n.toNat x'.snd.fst (List.drop x'.fst s.data.toList) = sub1 old.data.toList w.data.toList n.toNat (0 : Nat) s.data.toList) ∧ s.size - x'.fst < s.size - x.fst ∧ ((AV.v (Value.int IntKind.i64 (IntKind.i64.wrap ((↑x.fst : Int) + (↑old.size : Int))))).den = (AV.v (Value.int IntKind.i64 (↑x'.fst : Int))).den ∧ (AV.v (Value.int IntKind.i64 (IntKind.i64.wrap ((↑x.snd.fst : Int) + (1 : Int))))).den = (AV.v (Value.int IntKind.i64 (↑x'.snd.fst : Int))).den ∧ (AV.v (Value.string (catS x.snd.snd w))).den = (AV.v (Value.string x'.snd.snd)).den ∧ (AV.v (Value.string s)).den = (AV.v (Value.string s)).den ∧ (AV.v (Value.string old)).den = (AV.v (Value.string old)).den ∧ (AV.v (Value.string w)).den = (AV.v (Value.string w)).den ∧ (AV.v (Value.int IntKind.i64 n)).den = (AV.v (Value.int IntKind.i64 n)).den ∧ True) ∧ LeH [] []) (br (IntKind.i64.wrap ((↑x.snd.fst : Int) + (1 : Int)) == n) (x.snd.snd.size + w.size ≤ (9223372036854775807 : Nat) ∧ ∃ (x' : Nat × Nat × ByteArray), (x'.fst ≤ s.size ∧ x'.snd.fst ≤ x'.fst ∧ x'.snd.snd.size ≤ (255 : Nat) * x'.fst ∧ x'.snd.snd.data.toList ++ sub1 old.data.toList w.data.toList n.toNat x'.snd.fst (List.drop x'.fst s.data.toList) = sub1 old.data.toList w.data.toList n.toNat (0 : Nat) s.data.toList) ∧ s.size - x'.fst < s.size - x.fst ∧ ((AV.v (Value.int IntKind.i64 (IntKind.i64.wrap ((↑x.fst : Int) + (↑old.size : Int))))).den = (AV.v (Value.int IntKind.i64 (↑x'.fst : Int))).den ∧ (AV.v (Value.int IntKind.i64 (IntKind.i64.wrap ((↑x.snd.fst : Int) + (1 : Int))))).den = (AV.v (Value.int IntKind.i64 (↑x'.snd.fst : Int))).den ∧ (AV.v (Value.string (catS x.snd.snd w))).den = (AV.v (Value.string x'.snd.snd)).den ∧ (AV.v (Value.string s)).den = (AV.v (Value.string s)).den ∧ (AV.v (Value.string old)).den = (AV.v (Value.string old)).den ∧ (AV.v (Value.string w)).den = (AV.v (Value.string w)).den ∧ (AV.v (Value.int IntKind.i64 n)).den = (AV.v (Value.int IntKind.i64 n)).den ∧ True) ∧ LeH [] []) (x.snd.snd.size + old.size ≤ (9223372036854775807 : Nat) ∧ ∃ (x' : Nat × Nat × ByteArray), (x'.fst ≤ s.size ∧ x'.snd.fst ≤ x'.fst ∧ x'.snd.snd.size ≤ (255 : Nat) * x'.fst ∧ x'.snd.snd.data.toList ++ sub1 old.data.toList w.data.toList n.toNat x'.snd.fst (List.drop x'.fst s.data.toList) = sub1 old.data.toList w.data.toList n.toNat (0 : Nat) s.data.toList) ∧ s.size - x'.fst < s.size - x.fst ∧ ((AV.v (Value.int IntKind.i64 (IntKind.i64.wrap ((↑x.fst : Int) + (↑old.size : Int))))).den = (AV.v (Value.int IntKind.i64 (↑x'.fst : Int))).den ∧ (AV.v (Value.int IntKind.i64 (IntKind.i64.wrap ((↑x.snd.fst : Int) + (1 : Int))))).den = (AV.v (Value.int IntKind.i64 (↑x'.snd.fst : Int))).den ∧ (AV.v (Value.string (catS x.snd.snd old))).den = (AV.v (Value.string x'.snd.snd)).den ∧ (AV.v (Value.string s)).den = (AV.v (Value.string s)).den ∧ (AV.v (Value.string old)).den = (AV.v (Value.string old)).den ∧ (AV.v (Value.string w)).den = (AV.v (Value.string w)).den ∧ (AV.v (Value.int IntKind.i64 n)).den = (AV.v (Value.int IntKind.i64 n)).den ∧ True) ∧ LeH [] [])))) (((0 : Int) ≤ IntKind.i64.wrap ((↑x.fst : Int) + (1 : Int)) ∧ IntKind.i64.wrap ((↑x.fst : Int) + (1 : Int)) ≤ (↑s.size : Int)) ∧ ((0 : Int) ≤ (↑x.fst : Int) ∧ (↑x.fst : Int) ≤ IntKind.i64.wrap ((↑x.fst : Int) + (1 : Int))) ∧ x.snd.snd.size + (subS s (↑x.fst : Int).toNat (IntKind.i64.wrap ((↑x.fst : Int) + (1 : Int))).toNat).size ≤ (9223372036854775807 : Nat) ∧ ∃ (x' : Nat × Nat × ByteArray), (x'.fst ≤ s.size ∧ x'.snd.fst ≤ x'.fst ∧ x'.snd.snd.size ≤ (255 : Nat) * x'.fst ∧ x'.snd.snd.data.toList ++ sub1 old.data.toList w.data.toList n.toNat x'.snd.fst (List.drop x'.fst s.data.toList) = sub1 old.data.toList w.data.toList n.toNat (0 : Nat) s.data.toList) ∧ s.size - x'.fst < s.size - x.fst ∧ ((AV.v (Value.int IntKind.i64 (IntKind.i64.wrap ((↑x.fst : Int) + (1 : Int))))).den = (AV.v (Value.int IntKind.i64 (↑x'.fst : Int))).den ∧ (AV.v (Value.int IntKind.i64 (↑x.snd.fst : Int))).den = (AV.v (Value.int IntKind.i64 (↑x'.snd.fst : Int))).den ∧ (AV.v (Value.string (catS x.snd.snd (subS s (↑x.fst : Int).toNat (IntKind.i64.wrap ((↑x.fst : Int) + (1 : Int))).toNat)))).den = (AV.v (Value.string x'.snd.snd)).den ∧ (AV.v (Value.string s)).den = (AV.v (Value.string s)).den ∧ (AV.v (Value.string old)).den = (AV.v (Value.string old)).den ∧ (AV.v (Value.string w)).den = (AV.v (Value.string w)).den ∧ (AV.v (Value.int IntKind.i64 n)).den = (AV.v (Value.int IntKind.i64 n)).den ∧ True) ∧ LeH [] [])) (br (decide ((↑x.snd.snd.size : Int) > (255 : Int))) (R (AV.tup [AV.v (Value.string (ByteArray.mk #[])), AV.v (Value.int IntKind.i64 (2 : Int))])) (R (AV.tup [AV.v (Value.string x.snd.snd), AV.v (Value.int IntKind.i64 (0 : Int))])))))))))) : LC Try.prog 20 [.v (.string s), .v (.string old), .v (.string w), .v (.int .i64 n)] [] (fun z_ _ => R z_) :=
  lc_of_exec (tbl := t5) tab_ok t5_ok mixed (fun _ T H => .inv (Nat × Nat × ByteArray) (fun x => ((12, .v (.int .i64 (x.1 : Int))) :: (11, .v (.int .i64 (x.2.1 : Int))) :: (10, .v (.string x.2.2)) :: keepT [0, 1, 2, 3] T, H)) (fun x => x.1 ≤ s.size ∧ x.2.1 ≤ x.1 ∧ x.2.2.size ≤ 255 * x.1 ∧ x.2.2.data.toList ++ sub1 old.data.toList w.data.toList n.toNat x.2.1 (s.data.toList.drop x.1) = sub1 old.data.toList w.data.toList n.toNat 0 s.data.toList) (fun x => s.size - x.1)) 2 _ Try.func20 rfl Try.ntmps20 (by decide) (by kernel_rfl) (Nat.le_of_ble_eq_true rfl) (@Eq.mpr (execN tab t5 (fun _ T H => .inv (Nat × Nat × ByteArray) (fun x => ((12, .v (.int .i64 (x.1 : Int))) :: (11, .v (.int .i64 (x.2.1 : Int))) :: (10, .v (.string x.2.2)) :: keepT [0, 1, 2, 3] T, H)) (fun x => x.1 ≤ s.size ∧ x.2.1 ≤ x.1 ∧ x.2.2.size ≤ 255 * x.1 ∧ x.2.2.data.toList ++ sub1 old.data.toList w.data.toList n.toNat x.2.1 (s.data.toList.drop x.1) = sub1 old.data.toList w.data.toList n.toNat 0 s.data.toList) (fun x => s.size - x.1)) 2 Try.f20.ntmps [] none 0 (body Try.f20) (argsT [.v (.string s), .v (.string old), .v (.string w), .v (.int .i64 n)] 0) [] (post Try.f20 tab (retK (fun z_ _ => R z_)))) _ (by kernel_rfl) h)

set_option maxRecDepth 100000 in
theorem rsubst_lc (s old w : ByteArray) (n : Int) (hq : n ≤ 9223372036854775807) : LC Try.prog 20 [.v (.string s), .v (.string old), .v (.string w), .v (.int .i64 n)] [] (fun z_ _ => z_ = .tup [.v (.string (sOf (substO s old w n))), .v (.int .i64 (cOf (substO s old w n)))]) :=
  rsubst_vc s old w n (by
    simp only [true_and, and_true, br_iff, Bool.not_eq_true', Bool.not_eq_false', decide_eq_true_eq, decide_eq_false_iff_not, ge_iff_le, gt_iff_lt, beq_iff_eq, beq_eq_false_iff_ne, AV.den, Value.int.injEq, Nat.zero_add, Int.toNat_natCast, eqS_nil, eqS_nil_f]
    have no : ¬ (s.size ≤ 255 ∧ old.size ≤ 255 ∧ w.size ≤ 255 ∧ 0 ≤ n) → substO s old w n = none := fun h => if_neg h
    refine ⟨fun h => by rw [no (by omega)]; rfl, fun h1 => ⟨fun h => by rw [no (by omega)]; rfl, fun h2 => ⟨fun h => by rw [no (by omega)]; rfl, fun h3 => ⟨fun h => by rw [no (by omega)]; rfl, fun h4 => ?_⟩⟩⟩⟩
    have hr : substO s old w n = _ := if_pos ⟨by omega, by omega, by omega, by omega⟩
    obtain ⟨k, rfl⟩ : ∃ k : Nat, n = (k : Int) := ⟨n.toNat, by omega⟩
    simp only [Int.toNat_natCast] at hr ⊢
    refine ⟨fun h5 => by rw [hr, if_pos h5]; rfl, fun h5 => ?_⟩
    rw [if_neg h5] at hr
    refine ⟨⟨(0, 0, ByteArray.mk #[]), ⟨by simp only; omega, by simp only; omega, by decide, by simp⟩, ⟨rfl, rfl, rfl⟩, LeH.refl _⟩, ?_⟩
    rintro ⟨i, c, out⟩ ⟨i1, i2, i3, i4⟩
    simp only at i1 i2 i3 i4 ⊢
    have e0 : IntKind.i64.wrap ((i : Int) + old.size) = ((i + old.size : Nat) : Int) := by rw [w64 (by omega)]; omega
    have e1 : IntKind.i64.wrap ((i : Int) + 1) = ((i + 1 : Nat) : Int) := by rw [w64 (by omega)]; omega
    have e2 : IntKind.i64.wrap ((c : Int) + 1) = ((c + 1 : Nat) : Int) := by rw [w64 (by omega)]; omega
    have z1 := size_subS s i (i + 1)
    simp only [e0, e1, e2, Int.toNat_natCast]
    have stepN : i < s.size → Lib.occAt s.data.toList old.data.toList i = false → ∃ x' : Nat × Nat × ByteArray, (x'.1 ≤ s.size ∧ x'.2.1 ≤ x'.1 ∧ x'.2.2.size ≤ 255 * x'.1 ∧ x'.2.2.data.toList ++ sub1 old.data.toList w.data.toList k x'.2.1 (s.data.toList.drop x'.1) = sub1 old.data.toList w.data.toList k 0 s.data.toList) ∧ s.size - x'.1 < s.size - i ∧ (((i + 1 : Nat) : Int) = (x'.1 : Int) ∧ (c : Int) = (x'.2.1 : Int) ∧ Value.string (catS out (subS s i (i + 1))) = Value.string x'.2.2) ∧ LeH [] [] := fun h hn =>
      ⟨(i + 1, c, catS out (subS s i (i + 1))), ⟨by simp only; omega, by simp only; omega, by simp only [size_catS]; omega, subst_no h h5 hn i4⟩, by simp only; omega, ⟨rfl, rfl, rfl⟩, LeH.refl _⟩
    have stepY : ∀ z : ByteArray, (if k = 0 ∨ c + 1 = k then w else old) = z → i + old.size ≤ s.size → z.size ≤ 255 → Lib.occAt s.data.toList old.data.toList i = true → ∃ x' : Nat × Nat × ByteArray, (x'.1 ≤ s.size ∧ x'.2.1 ≤ x'.1 ∧ x'.2.2.size ≤ 255 * x'.1 ∧ x'.2.2.data.toList ++ sub1 old.data.toList w.data.toList k x'.2.1 (s.data.toList.drop x'.1) = sub1 old.data.toList w.data.toList k 0 s.data.toList) ∧ s.size - x'.1 < s.size - i ∧ (((i + old.size : Nat) : Int) = (x'.1 : Int) ∧ ((c + 1 : Nat) : Int) = (x'.2.1 : Int) ∧ Value.string (catS out z) = Value.string x'.2.2) ∧ LeH [] [] := fun z hz hs h255 hn => by
      refine ⟨(i + old.size, c + 1, catS out z), ⟨hs, by simp only; omega, by simp only [size_catS]; omega, ?_⟩, by simp only; omega, ⟨rfl, rfl, rfl⟩, LeH.refl _⟩
      rw [← hz]; exact subst_yes h5 hn i4
    refine ⟨fun h => ⟨fun h6 => ⟨by omega, by omega, fun h7 => ⟨by omega, by omega, by omega, stepN (by omega) (by rw [occAt_sub (by omega)]; exact h7)⟩, fun h7 => ?_⟩, fun h6 => ⟨by omega, by omega, by omega, stepN (by omega) ?_⟩⟩, fun h => ?_⟩
    · have ho : Lib.occAt s.data.toList old.data.toList i = true := by rw [occAt_sub (by omega)]; exact h7
      refine ⟨fun h8 => ⟨by omega, stepY w (if_pos (.inl (by omega))) (by omega) (by omega) ho⟩, fun h8 => ⟨fun h9 => ⟨by omega, stepY w (if_pos (.inr (by omega))) (by omega) (by omega) ho⟩, fun h9 => ⟨by omega, stepY old (if_neg (by omega)) (by omega) (by omega) ho⟩⟩⟩
    · cases ho : Lib.occAt s.data.toList old.data.toList i with
      | false => rfl
      | true => have := occAt_room ho i1; omega
    · obtain rfl : i = s.size := by omega
      have e : out.data.toList = sub1 old.data.toList w.data.toList k 0 s.data.toList := by
        have hd : s.data.toList.drop s.size = [] := List.drop_eq_nil_of_le (by rw [size_data]; exact Nat.le_refl _)
        rw [hd, sub_nil (fun e => h5 (by rw [← size_data, e]; rfl)), List.append_nil] at i4
        exact i4
      rw [hr, ← e, mkS_toList]
      exact ⟨fun h => by rw [show toldO out = none from if_neg (by omega)]; rfl, fun h => by rw [show toldO out = some out from if_pos (by omega)]; rfl⟩)

def rsubstH : List AV → Option (Prop × AV)
  | [.v (.string s), .v (.string old), .v (.string w), .v (.int .i64 n)] => some (n ≤ 9223372036854775807, .tup [.v (.string (sOf (substO s old w n))), .v (.int .i64 (cOf (substO s old w n)))])
  | _ => none

theorem rsubst_ok : PrOk Try.prog 20 rsubstH := PrOk.of_lc (enters_of (c := body Try.f20) Try.func20 rfl (by kernel_rfl)) (by
  intro args p h hp
  unfold rsubstH at h
  split at h
  · cases h; exact rsubst_lc _ _ _ _ hp
  · cases h)

end Go.Proofs.Ytgafgejkijbmpaa

