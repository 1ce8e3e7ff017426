/- Strs: the document's Search; the laws StrsFinds and StrsTurns. -/
import Derived.Test.YtgafgejkijbmpaaV
namespace Go.Eng
open Go.Sp

/-- The heads of the loops over places. -/
def rsI (p s : ByteArray) (from_ : Int) : Nat → TT → HH → LI := fun b T H =>
  match b with
  | 0 => .inv Nat (fun i => ((8, .v (.int .i64 (i : Int))) :: keepT [0, 1] T, H)) (fun i => i ≤ s.size + 1 ∧ firstH (hitB p s) (s.size + 1 - i) i = searchO p s from_) (fun i => s.size + 1 - i)
  | _ => (match T.get 8 with
    | some (.v (.int _ i)) => .inv Nat (fun k => ((9, .v (.int .i64 (k : Int))) :: keepT [0, 1, 8] T, H)) (fun k => i ≤ k ∧ k ≤ s.size + 1 ∧ noPre p s i.toNat k) (fun k => s.size + 1 - k)
    | _ => .unroll 0)

end Go.Eng
namespace Go.Proofs.Ytgafgejkijbmpaa
open Go Go.Eng Go.Sp
set_option linter.unusedVariables false
set_option linter.unusedSimpArgs false

def w0 : Tbl := (49, .pre rLikeH) :: t5

theorem w0_ok : TblOk Try.prog w0 := ⟨rLike_ok, t5_ok⟩


set_option maxRecDepth 100000 in
theorem rsearch_vc (p s : ByteArray) (from_ : Int) {R : AV → Prop} (h : (br (decide ((↑p.size : Int) > (255 : Int))) (R (AV.tup [AV.v (Value.int IntKind.i64 (0 : Int)), AV.v (Value.int IntKind.i64 (2 : Int))])) (br (decide ((↑s.size : Int) > (255 : Int))) (R (AV.tup [AV.v (Value.int IntKind.i64 (0 : Int)), AV.v (Value.int IntKind.i64 (2 : Int))])) (br (decide (from_ < (1 : Int))) (R (AV.tup [AV.v (Value.int IntKind.i64 (0 : Int)), AV.v (Value.int IntKind.i64 (2 : Int))])) (br (decide (from_ > IntKind.i64.wrap ((↑s.size : Int) + (1 : Int)))) (R (AV.tup [AV.v (Value.int IntKind.i64 (0 : Int)), AV.v (Value.int IntKind.i64 (2 : Int))])) ((∃ (x : Nat), (x ≤ s.size + (1 : Nat) ∧ firstH (hitB p s) (s.size + (1 : Nat) - x) x = searchO p s from_) ∧ ((AV.v (Value.int IntKind.i64 (IntKind.i64.wrap (from_ - (1 : Int))))).den = (AV.v (Value.int IntKind.i64 (↑x : Int))).den ∧ (AV.v (Value.string p)).den = (AV.v (Value.string p)).den ∧ (AV.v (Value.string s)).den = (AV.v (Value.string s)).den ∧ True) ∧ LeH [] []) ∧ ∀ (n1 : Nat), n1 ≤ s.size + (1 : Nat) ∧ firstH (hitB p s) (s.size + (1 : Nat) - n1) n1 = searchO p s from_ → br (decide ((↑n1 : Int) ≤ (↑s.size : Int))) ((∃ (x : Nat), ((↑n1 : Int) ≤ (↑x : Int) ∧ x ≤ s.size + (1 : Nat) ∧ noPre p s (↑n1 : Int).toNat x) ∧ ((AV.v (Value.int IntKind.i64 (↑n1 : Int))).den = (AV.v (Value.int IntKind.i64 (↑x : Int))).den ∧ (AV.v (Value.string p)).den = (AV.v (Value.string p)).den ∧ (AV.v (Value.string s)).den = (AV.v (Value.string s)).den ∧ (AV.v (Value.int IntKind.i64 (↑n1 : Int))).den = (AV.v (Value.int IntKind.i64 (↑n1 : Int))).den ∧ True) ∧ LeH [] []) ∧ ∀ (n3 : Nat), (↑n1 : Int) ≤ (↑n3 : Int) ∧ n3 ≤ s.size + (1 : Nat) ∧ noPre p s (↑n1 : Int).toNat n3 → br (decide ((↑n3 : Int) ≤ (↑s.size : Int))) (((0 : Int) ≤ (↑n3 : Int) ∧ (↑n3 : Int) ≤ (↑s.size : Int)) ∧ ((0 : Int) ≤ (↑n1 : Int) ∧ (↑n1 : Int) ≤ (↑n3 : Int)) ∧ (p.size ≤ (1000000 : Nat) ∧ (subS s (↑n1 : Int).toNat (↑n3 : Int).toNat).size ≤ (1000000 : Nat)) ∧ br (likeB p (subS s (↑n1 : Int).toNat (↑n3 : Int).toNat)) (R (AV.tup [AV.v (Value.int IntKind.i64 (IntKind.i64.wrap ((↑n1 : Int) + (1 : Int)))), AV.v (Value.int IntKind.i64 (0 : Int))])) (∃ (x' : Nat), ((↑n1 : Int) ≤ (↑x' : Int) ∧ x' ≤ s.size + (1 : Nat) ∧ noPre p s (↑n1 : Int).toNat x') ∧ s.size + (1 : Nat) - x' < s.size + (1 : Nat) - n3 ∧ ((AV.v (Value.int IntKind.i64 (IntKind.i64.wrap ((↑n3 : Int) + (1 : Int))))).den = (AV.v (Value.int IntKind.i64 (↑x' : Int))).den ∧ (AV.v (Value.string p)).den = (AV.v (Value.string p)).den ∧ (AV.v (Value.string s)).den = (AV.v (Value.string s)).den ∧ (AV.v (Value.int IntKind.i64 (↑n1 : Int))).den = (AV.v (Value.int IntKind.i64 (↑n1 : Int))).den ∧ True) ∧ LeH [] [])) (∃ (x' : Nat), (x' ≤ s.size + (1 : Nat) ∧ firstH (hitB p s) (s.size + (1 : Nat) - x') x' = searchO p s from_) ∧ s.size + (1 : Nat) - x' < s.size + (1 : Nat) - n1 ∧ ((AV.v (Value.int IntKind.i64 (IntKind.i64.wrap ((↑n1 : Int) + (1 : Int))))).den = (AV.v (Value.int IntKind.i64 (↑x' : Int))).den ∧ (AV.v (Value.string p)).den = (AV.v (Value.string p)).den ∧ (AV.v (Value.string s)).den = (AV.v (Value.string s)).den ∧ True) ∧ LeH [] [])) (R (AV.tup [AV.v (Value.int IntKind.i64 (0 : Int)), AV.v (Value.int IntKind.i64 (2 : Int))])))))))) : LC Try.prog 16 [.v (.string p), .v (.string s), .v (.int .i64 from_)] [] (fun z_ _ => R z_) :=
  lc_of_exec (tbl := w0) tab_ok w0_ok mixed (rsI p s from_) 2 _ Try.func16 rfl Try.ntmps16 (by decide) (by kernel_rfl) (Nat.le_of_ble_eq_true rfl) (@Eq.mpr (execN tab w0 (rsI p s from_) 2 Try.f16.ntmps [] none 0 (body Try.f16) (argsT [.v (.string p), .v (.string s), .v (.int .i64 from_)] 0) [] (post Try.f16 tab (retK (fun z_ _ => R z_)))) _ (by kernel_rfl) h)

set_option maxRecDepth 100000 in
theorem rsearch_lc (p s : ByteArray) (from_ : Int) (hq : from_ ≤ 9223372036854775807) : LC Try.prog 16 [.v (.string p), .v (.string s), .v (.int .i64 from_)] [] (fun z_ _ => z_ = .tup [.v (.int .i64 (nOf (searchO p s from_))), .v (.int .i64 (cOf (searchO p s from_)))]) :=
  rsearch_vc p s from_ (by
    simp only [true_and, and_true, br_iff, Bool.not_eq_true', Bool.not_eq_false', decide_eq_true_eq, decide_eq_false_iff_not, ge_iff_le, gt_iff_lt, beq_iff_eq, beq_eq_false_iff_ne, AV.den, Value.int.injEq, Int.toNat_natCast, size_catS, size_subS]
    have no : ¬ (p.size ≤ 255 ∧ s.size ≤ 255 ∧ 1 ≤ from_ ∧ from_ ≤ s.size + 1) → AV.tup [AV.v (Value.int IntKind.i64 0), AV.v (Value.int IntKind.i64 2)] = .tup [.v (.int .i64 (nOf (searchO p s from_))), .v (.int .i64 (cOf (searchO p s from_)))] := fun h => by
      rw [show searchO p s from_ = none from if_neg h]; rfl
    refine ⟨fun h => no (by omega), fun h1 => ⟨fun h => no (by omega), fun h2 => ⟨fun h => no (by omega), fun h3 => ?_⟩⟩⟩
    have es : IntKind.i64.wrap ((s.size : Int) + 1) = (s.size : Int) + 1 := w64 (by omega)
    simp only [es]
    refine ⟨fun h => no (by omega), fun h4 => ?_⟩
    have hr : searchO p s from_ = _ := if_pos ⟨by omega, by omega, by omega, by omega⟩
    refine ⟨⟨(from_ - 1).toNat, ⟨by omega, hr.symm⟩, by rw [w64 (by omega)]; omega, LeH.refl _⟩, fun i hi => ?_⟩
    obtain ⟨i1, i2⟩ := hi
    refine ⟨fun h => ⟨⟨i, ⟨by omega, by omega, ⟨fun q h1 h2 => by omega⟩⟩, rfl, LeH.refl _⟩, fun k hk => ?_⟩, fun h => ?_⟩
    · obtain ⟨k1, k2, k3⟩ := hk
      have e1 : IntKind.i64.wrap ((i : Int) + 1) = (i : Int) + 1 := w64 (by omega)
      have e2 : IntKind.i64.wrap ((k : Int) + 1) = (k : Int) + 1 := w64 (by omega)
      simp only [e1, e2]
      refine ⟨fun h5 => ⟨⟨by omega, by omega⟩, ⟨by omega, by omega⟩, ⟨by omega, by omega⟩, fun hy => ?_, fun hn => ⟨k + 1, ⟨by omega, by omega, noPre_step k3 hn⟩, by omega, by omega, LeH.refl _⟩⟩, fun h5 => ?_⟩
      · rw [← i2, first_yes (by omega) ((hit_iff (by omega)).2 ⟨k, by omega, by omega, hy⟩)]; rfl
      · have : k = s.size + 1 := by omega
        subst this
        exact ⟨i + 1, ⟨by omega, by rw [← i2, first_no (by omega) (noPre_hit (by omega) k3)]⟩, by omega, by omega, LeH.refl _⟩
    · rw [← i2, first_end (by omega)]; rfl)

def rsearchH : List AV → Option (Prop × AV)
  | [.v (.string p), .v (.string s), .v (.int .i64 from_)] => some (from_ ≤ 9223372036854775807, .tup [.v (.int .i64 (nOf (searchO p s from_))), .v (.int .i64 (cOf (searchO p s from_)))])
  | _ => none

theorem rsearch_ok : PrOk Try.prog 16 rsearchH := PrOk.of_lc (enters_of (c := body Try.f16) Try.func16 rfl (by kernel_rfl)) (by
  intro args p h hp
  unfold rsearchH at h
  split at h
  · cases h; exact rsearch_lc _ _ _ hp
  · cases h)


def w1 : Tbl := (14, .gen (glH livesH)) :: (12, .gen (glH findH)) :: (13, .pure rfindH) :: (15, .pre searchH) :: (16, .pre rsearchH) :: []

theorem w1_ok : TblOk Try.prog w1 := ⟨lives_ok, find_ok, rfind_ok, search_ok, rsearch_ok, trivial⟩


set_option maxRecDepth 100000 in
theorem finds_vc (m : Int) (p s : ByteArray) (from_ : Int) {R : AV → Prop} (h : (from_ ≤ (9223372036854775807 : Int) ∧ br (decide ((↑p.size : Int) > (40 : Int))) (br (nOf (findO p s from_) == nOf (findO p s from_)) (br (cOf (findO p s from_) == cOf (findO p s from_)) (True ∧ R (AV.v (Value.bool true))) (R (AV.v (Value.bool false)))) (R (AV.v (Value.bool false)))) (br (decide ((↑s.size : Int) > (60 : Int))) (br (decide ((↑s.size : Int) ≤ (255 : Int))) (br (nOf (findO p s from_) == nOf (findO p s from_)) (br (cOf (findO p s from_) == cOf (findO p s from_)) (True ∧ R (AV.v (Value.bool true))) (R (AV.v (Value.bool false)))) (R (AV.v (Value.bool false)))) (from_ ≤ (9223372036854775807 : Int) ∧ from_ ≤ (9223372036854775807 : Int) ∧ br (nOf (findO p s from_) == nOf (findO p s from_)) (br (cOf (findO p s from_) == cOf (findO p s from_)) (br (nOf (searchO p s from_) == nOf (searchO p s from_)) (br (cOf (searchO p s from_) == cOf (searchO p s from_)) (True ∧ R (AV.v (Value.bool true))) (R (AV.v (Value.bool false)))) (R (AV.v (Value.bool false)))) (R (AV.v (Value.bool false)))) (R (AV.v (Value.bool false))))) (from_ ≤ (9223372036854775807 : Int) ∧ from_ ≤ (9223372036854775807 : Int) ∧ br (nOf (findO p s from_) == nOf (findO p s from_)) (br (cOf (findO p s from_) == cOf (findO p s from_)) (br (nOf (searchO p s from_) == nOf (searchO p s from_)) (br (cOf (searchO p s from_) == cOf (searchO p s from_)) (True ∧ R (AV.v (Value.bool true))) (R (AV.v (Value.bool false)))) (R (AV.v (Value.bool false)))) (R (AV.v (Value.bool false)))) (R (AV.v (Value.bool false))))))) : LC Try.prog 3 [.v (.string p), .v (.string s), .v (.int .i64 from_)] [gB m] (fun z_ _ => R z_) :=
  lc_of_exec (tbl := w1) tab_ok w1_ok mixed noinv 2 _ Try.func3 rfl Try.ntmps3 (by decide) (by kernel_rfl) (Nat.le_of_ble_eq_true rfl) (@Eq.mpr (execN tab w1 noinv 2 Try.f3.ntmps [] none 0 (body Try.f3) (argsT [.v (.string p), .v (.string s), .v (.int .i64 from_)] 0) [gB m] (post Try.f3 tab (retK (fun z_ _ => R z_)))) _ (by kernel_rfl) h)


theorem finds_law (m : Int) (p s : ByteArray) (from_ : Int) (hp : p.size ≤ 140737488351232) (hs : s.size ≤ 140737488351232) (h2 : -9223372036854775808 ≤ from_ ∧ from_ ≤ 9223372036854775807) :
    LC Try.prog 3 [.v (.string p), .v (.string s), .v (.int .i64 from_)] [gB m] (fun z _ => z = .v (.bool true)) :=
  finds_vc m p s from_ (by
    simp [eqS_refl, br_iff]; omega)
end Go.Proofs.Ytgafgejkijbmpaa

