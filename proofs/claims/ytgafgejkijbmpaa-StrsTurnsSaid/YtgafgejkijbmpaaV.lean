/- Strs: where what is like a pattern begins. -/
import Derived.Test.YtgafgejkijbmpaaU
namespace Go.Sp
open Go.Eng

/-- No beginning of a text, shorter than k, is like a pattern. -/
structure noPre (p t : ByteArray) (i k : Nat) : Prop where
  get : ∀ q, i ≤ q → q < k → likeB p (subS t i q) = false

theorem noPre_hit {p t : ByteArray} {i : Nat} (hi : i ≤ t.size) (h : noPre p t i (t.size + 1)) : hitB p t i = false := by
  rw [Bool.eq_false_iff]
  intro hh
  obtain ⟨k, h1, h2, h3⟩ := (hit_iff hi).1 hh
  rw [h.get k h1 (by omega)] at h3
  cases h3

theorem noPre_step {p t : ByteArray} {i k : Nat} (h : noPre p t i k) (hk : likeB p (subS t i k) = false) : noPre p t i (k + 1) := ⟨fun q h1 h2 => by
  by_cases h3 : q = k
  · subst h3; exact hk
  · exact h.get q h1 (by omega)⟩

theorem last_iff {p : ByteArray} (h : 1 ≤ p.size) : eqS (subS p (p.size - 1) p.size) (ByteArray.mk #[126]) = true ↔ p.data.toList.getLast? = some 126 := by
  have hl := size_data p
  have e : (subS p (p.size - 1) p.size).data.toList = [p.data.toList[p.size - 1]'(by omega)] := by
    rw [subS, data_mkS, show p.size - (p.size - 1) = 1 by omega, List.drop_eq_getElem_cons (by omega)]
    rfl
  have e2 : (ByteArray.mk #[126]).data.toList = [(126 : UInt8)] := rfl
  have e3 : p.data.toList.getLast? = some (p.data.toList[p.size - 1]'(by omega)) := by
    rw [List.getLast?_eq_getElem?, List.getElem?_eq_getElem (by omega)]
    congr 2
  rw [eqS, e, e2, e3]
  simp

end Go.Sp
namespace Go.Eng
open Go.Sp

/-- The head of the loop over a text's beginnings. -/
def bgI (p s : ByteArray) : Nat → TT → HH → LI := fun _ T H => .inv Nat (fun k => ((16, .v (.int .i64 (k : Int))) :: keepT [0, 1, 15] T, H)) (fun k => k ≤ s.size + 1 ∧ noPre p s 0 k) (fun k => s.size + 1 - k)

/-- The text in a cell. -/
def sAt (i : Nat) (H : HH) : ByteArray :=
  match nth H i with
  | some ⟨_, .cells [.v (.string s)] _, _⟩ => s
  | _ => ByteArray.empty

/-- The whole number in a cell. -/
def iAt (i : Nat) (H : HH) : Int :=
  match nth H i with
  | some ⟨_, .cells [.v (.int _ n)] _, _⟩ => n
  | _ => 0

/-- The head of the loop over places. -/
def seI : Nat → TT → HH → LI := fun _ T H => .inv Nat (fun i => ((4, .v (.int .i64 (i : Int))) :: keepT [0, 1, 2] T, H)) (fun i => i ≤ (sAt 1 H).size + 1 ∧ firstH (hitB (sAt 0 H) (sAt 1 H)) ((sAt 1 H).size + 1 - i) i = searchO (sAt 0 H) (sAt 1 H) (iAt 2 H)) (fun i => (sAt 1 H).size + 1 - i)

end Go.Eng
namespace Go.Proofs.Ytgafgejkijbmpaa
open Go Go.Eng Go.Sp
set_option linter.unusedVariables false
set_option linter.unusedSimpArgs false


set_option maxRecDepth 100000 in
theorem rfold_vc (s : ByteArray) {R : AV → Prop} (h : (∀ (n1 n2 : Nat), s.size ≤ n2 → (∃ (x : Nat), x ≤ s.size ∧ ((AV.v (Value.int IntKind.i64 (0 : Int))).den = (AV.v (Value.int IntKind.i64 (↑x : Int))).den ∧ (AV.v (Value.string s)).den = (AV.v (Value.string s)).den ∧ (AV.sl (0 : Nat) n1 (0 : Nat) (1 : Nat) s.size n2).den = (AV.sl (0 : Nat) n1 (0 : Nat) (1 : Nat) s.size n2).den ∧ True) ∧ LeH [Blk.mk n1 (Cont.rows n2 [Col.ints IntKind.u8 (byteAt s)] (5 : Nat)) true] [Blk.mk n1 (Cont.rows n2 [Col.ints IntKind.u8 (turn upI (byteAt s) x)] (5 : Nat)) true]) ∧ ∀ (n4 : Nat), n4 ≤ s.size → br (decide ((↑n4 : Int) < (↑s.size : Int))) (((0 : Int) ≤ (↑n4 : Int) ∧ (↑n4 : Int) < (↑s.size : Int)) ∧ n1 = n1 ∧ (0 : Nat) + (↑n4 : Int).toNat < n2 ∧ br (decide (turn upI (byteAt s) n4 ((0 : Nat) + (↑n4 : Int).toNat) ≥ (97 : Int))) (((0 : Int) ≤ (↑n4 : Int) ∧ (↑n4 : Int) < (↑s.size : Int)) ∧ n1 = n1 ∧ (0 : Nat) + (↑n4 : Int).toNat < n2 ∧ br (decide (turn upI (byteAt s) n4 ((0 : Nat) + (↑n4 : Int).toNat) ≤ (122 : Int))) (((0 : Int) ≤ (↑n4 : Int) ∧ (↑n4 : Int) < (↑s.size : Int)) ∧ n1 = n1 ∧ (0 : Nat) + (↑n4 : Int).toNat < n2 ∧ ((0 : Int) ≤ (↑n4 : Int) ∧ (↑n4 : Int) < (↑s.size : Int)) ∧ n1 = n1 ∧ (0 : Nat) + (↑n4 : Int).toNat < n2 ∧ ∃ (x' : Nat), x' ≤ s.size ∧ s.size - x' < s.size - n4 ∧ ((AV.v (Value.int IntKind.i64 (IntKind.i64.wrap ((↑n4 : Int) + (1 : Int))))).den = (AV.v (Value.int IntKind.i64 (↑x' : Int))).den ∧ (AV.v (Value.string s)).den = (AV.v (Value.string s)).den ∧ (AV.sl (0 : Nat) n1 (0 : Nat) (1 : Nat) s.size n2).den = (AV.sl (0 : Nat) n1 (0 : Nat) (1 : Nat) s.size n2).den ∧ True) ∧ LeH [Blk.mk n1 (Cont.rows n2 [Col.ints IntKind.u8 (upd (turn upI (byteAt s) n4) ((0 : Nat) + (↑n4 : Int).toNat) (IntKind.u8.wrap (IntKind.u8.wrap (turn upI (byteAt s) n4 ((0 : Nat) + (↑n4 : Int).toNat) - (97 : Int)) + (65 : Int))))] (5 : Nat)) true] [Blk.mk n1 (Cont.rows n2 [Col.ints IntKind.u8 (turn upI (byteAt s) x')] (5 : Nat)) true]) (∃ (x' : Nat), x' ≤ s.size ∧ s.size - x' < s.size - n4 ∧ ((AV.v (Value.int IntKind.i64 (IntKind.i64.wrap ((↑n4 : Int) + (1 : Int))))).den = (AV.v (Value.int IntKind.i64 (↑x' : Int))).den ∧ (AV.v (Value.string s)).den = (AV.v (Value.string s)).den ∧ (AV.sl (0 : Nat) n1 (0 : Nat) (1 : Nat) s.size n2).den = (AV.sl (0 : Nat) n1 (0 : Nat) (1 : Nat) s.size n2).den ∧ True) ∧ LeH [Blk.mk n1 (Cont.rows n2 [Col.ints IntKind.u8 (turn upI (byteAt s) n4)] (5 : Nat)) true] [Blk.mk n1 (Cont.rows n2 [Col.ints IntKind.u8 (turn upI (byteAt s) x')] (5 : Nat)) true])) (∃ (x' : Nat), x' ≤ s.size ∧ s.size - x' < s.size - n4 ∧ ((AV.v (Value.int IntKind.i64 (IntKind.i64.wrap ((↑n4 : Int) + (1 : Int))))).den = (AV.v (Value.int IntKind.i64 (↑x' : Int))).den ∧ (AV.v (Value.string s)).den = (AV.v (Value.string s)).den ∧ (AV.sl (0 : Nat) n1 (0 : Nat) (1 : Nat) s.size n2).den = (AV.sl (0 : Nat) n1 (0 : Nat) (1 : Nat) s.size n2).den ∧ True) ∧ LeH [Blk.mk n1 (Cont.rows n2 [Col.ints IntKind.u8 (turn upI (byteAt s) n4)] (5 : Nat)) true] [Blk.mk n1 (Cont.rows n2 [Col.ints IntKind.u8 (turn upI (byteAt s) x')] (5 : Nat)) true])) (n1 = n1 ∧ (0 : Nat) + s.size ≤ n2 ∧ R (AV.v (Value.string (mkI (List.map (fun (i : Nat) => turn upI (byteAt s) n4 ((0 : Nat) + i)) (List.range s.size)))))))) : LC Try.prog 76 [.v (.string s)] [] (fun z_ _ => R z_) :=
  lc_of_exec (tbl := []) tab_ok trivial mixed (fun b T H => .inv Nat (fun i => ((4, .v (.int .i64 (i : Int))) :: keepT [0, 3] T, turnH upI i H)) (fun i => i ≤ s.size) (fun i => s.size - i)) 2 _ Try.func76 rfl Try.ntmps76 (by decide) (by kernel_rfl) (Nat.le_of_ble_eq_true rfl) (@Eq.mpr (execN tab [] (fun b T H => .inv Nat (fun i => ((4, .v (.int .i64 (i : Int))) :: keepT [0, 3] T, turnH upI i H)) (fun i => i ≤ s.size) (fun i => s.size - i)) 2 Try.f76.ntmps [] none 0 (body Try.f76) (argsT [.v (.string s)] 0) [] (post Try.f76 tab (retK (fun z_ _ => R z_)))) _ (by kernel_rfl) h)

set_option maxRecDepth 100000 in
theorem rfold_lc (s : ByteArray) (hq : s.size ≤ 1000000) : LC Try.prog 76 [.v (.string s)] [] (fun z_ _ => z_ = .v (.string (mapB upB s))) :=
  rfold_vc s (by
    intros
    simp only [true_and, and_true, br_iff, Bool.not_eq_true', Bool.not_eq_false', decide_eq_true_eq, decide_eq_false_iff_not, ge_iff_le, gt_iff_lt, beq_iff_eq, beq_eq_false_iff_ne, AV.den, Value.int.injEq, turn_half low_h, turn_half up_h, Nat.zero_add, Int.toNat_natCast, half_at]
    rename_i n1 n2 h2
    refine ⟨⟨0, by omega, rfl, leEq (by rw [half_zero])⟩, fun i hi => ⟨fun h => ?_, fun h => ?_⟩⟩
    · have nx : IntKind.i64.wrap ((i : Int) + 1) = ((i + 1 : Nat) : Int) := by rw [w64 (by omega)]; omega
      have hx : ∀ h3 : 97 ≤ byteAt s i, byteAt s i ≤ 122 → IntKind.u8.wrap (IntKind.u8.wrap (byteAt s i - 97) + 65) = ((upB (bAt s i)).toNat : Int) := fun h3 h4 => by
        rw [IntWalk.u8_in (byteAt s i - 97) (by omega), IntWalk.u8_in _ (by omega), ← up_h, ← byteAt_eq, upI, if_pos ⟨h3, h4⟩]; omega
      refine ⟨by omega, by omega, fun h3 => ⟨by omega, by omega, fun h4 => ⟨by omega, by omega, by omega, by omega, i + 1, by omega, by omega, nx, leEq (by rw [half_upd (hx h3 h4)])⟩, fun h4 => ⟨i + 1, by omega, by omega, nx, leEq (by rw [half_same (by rw [byteAt_eq] at h4; rw [upB, if_neg (by omega)])])⟩⟩, fun h3 => ⟨i + 1, by omega, by omega, nx, leEq (by rw [half_same (by rw [byteAt_eq] at h3; rw [upB, if_neg (by omega)])])⟩⟩
    · obtain rfl : i = s.size := by omega
      have hr := half_read upB s
      simp only [Nat.zero_add] at hr
      simp only [hr]
      exact ⟨h2, trivial⟩)

def rfoldH : List AV → Option (Prop × AV)
  | [.v (.string s)] => some (s.size ≤ 1000000, .v (.string (mapB upB s)))
  | _ => none

theorem rfold_ok : PrOk Try.prog 76 rfoldH := PrOk.of_lc (enters_of (c := body Try.f76) Try.func76 rfl (by kernel_rfl)) (by
  intro args p h hp
  unfold rfoldH at h
  split at h
  · cases h; exact rfold_lc _ hp
  · cases h)


def v0 : Tbl := (76, .pre rfoldH) :: (75, .pre rlikeH) :: []

theorem v0_ok : TblOk Try.prog v0 := ⟨rfold_ok, rlike_ok, trivial⟩


set_option maxRecDepth 100000 in
theorem rLike_vc (p s : ByteArray) {R : AV → Prop} (h : (p.size ≤ (1000000 : Nat) ∧ s.size ≤ (1000000 : Nat) ∧ ((mapB upB p).size ≤ (1000000 : Nat) ∧ (mapB upB s).size ≤ (1000000 : Nat)) ∧ R (AV.v (Value.bool (Eng.mt (rpat (mapB upB p)) (mapB upB s).data.toList))))) : LC Try.prog 49 [.v (.string p), .v (.string s)] [] (fun z_ _ => R z_) :=
  lc_of_exec (tbl := v0) tab_ok v0_ok mixed noinv 2 _ Try.func49 rfl Try.ntmps49 (by decide) (by kernel_rfl) (Nat.le_of_ble_eq_true rfl) (@Eq.mpr (execN tab v0 noinv 2 Try.f49.ntmps [] none 0 (body Try.f49) (argsT [.v (.string p), .v (.string s)] 0) [] (post Try.f49 tab (retK (fun z_ _ => R z_)))) _ (by kernel_rfl) h)

set_option maxRecDepth 100000 in
theorem rLike_lc (p s : ByteArray) (hq : p.size ≤ 1000000 ∧ s.size ≤ 1000000) : LC Try.prog 49 [.v (.string p), .v (.string s)] [] (fun z_ _ => z_ = .v (.bool (likeB p s))) :=
  rLike_vc p s (by
    simp only [size_mapB]
    exact ⟨hq.1, hq.2, ⟨hq.1, hq.2⟩, rfl⟩)

def rLikeH : List AV → Option (Prop × AV)
  | [.v (.string p), .v (.string s)] => some (p.size ≤ 1000000 ∧ s.size ≤ 1000000, .v (.bool (likeB p s)))
  | _ => none

theorem rLike_ok : PrOk Try.prog 49 rLikeH := PrOk.of_lc (enters_of (c := body Try.f49) Try.func49 rfl (by kernel_rfl)) (by
  intro args p h hp
  unfold rLikeH at h
  split at h
  · cases h; exact rLike_lc _ _ hp
  · cases h)



def sfxAI : Handler := inlH tab [] noinv 2 Try.f88 2

set_option maxRecDepth 100000 in
theorem sfxA_ok : HOk Try.prog 88 sfxAI :=
  inl_ok (tbl := []) tab_ok trivial mixed noinv 2 _ 2 Try.func88 rfl Try.ntmps88 (by decide) (by kernel_rfl) (Nat.le_of_ble_eq_true rfl)


def v1 : Tbl := (88, .gen sfxAI) :: (74, .pre likeH) :: []

theorem v1_ok : TblOk Try.prog v1 := ⟨sfxA_ok, like_ok, trivial⟩


def sfxBI : Handler := inlH tab v1 noinv 2 Try.f73 2

set_option maxRecDepth 100000 in
theorem sfxB_ok : HOk Try.prog 73 sfxBI :=
  inl_ok (tbl := v1) tab_ok v1_ok mixed noinv 2 _ 2 Try.func73 rfl Try.ntmps73 (by decide) (by kernel_rfl) (Nat.le_of_ble_eq_true rfl)


def v2 : Tbl := (73, .gen sfxBI) :: v1

theorem v2_ok : TblOk Try.prog v2 := ⟨sfxB_ok, v1_ok⟩


set_option maxRecDepth 100000 in
theorem begins_vc (p s : ByteArray) {R : AV → Prop} (h : (br (decide ((↑p.size : Int) ≥ (1 : Int))) (((0 : Int) ≤ IntKind.i64.wrap ((↑p.size : Int) - (1 : Int)) ∧ IntKind.i64.wrap ((↑p.size : Int) - (1 : Int)) ≤ (↑p.size : Int)) ∧ p.size ≤ p.size ∧ br (!eqS (subS p (IntKind.i64.wrap ((↑p.size : Int) - (1 : Int))).toNat p.size) (ByteArray.mk #[(126 : UInt8)])) (p.size + (1 : Nat) ≤ (9223372036854775807 : Nat) ∧ ((catS p (ByteArray.mk #[(42 : UInt8)])).size ≤ (1000000 : Nat) ∧ s.size ≤ (1000000 : Nat)) ∧ R (AV.v (Value.bool (likeB (catS p (ByteArray.mk #[(42 : UInt8)])) s)))) ((∃ (x : Nat), (x ≤ s.size + (1 : Nat) ∧ noPre p s (0 : Nat) x) ∧ ((AV.v (Value.int IntKind.i64 (0 : Int))).den = (AV.v (Value.int IntKind.i64 (↑x : Int))).den ∧ (AV.v (Value.string p)).den = (AV.v (Value.string p)).den ∧ (AV.v (Value.string s)).den = (AV.v (Value.string s)).den ∧ (AV.v (Value.int IntKind.i64 (IntKind.i64.wrap ((↑s.size : Int) + (1 : Int))))).den = (AV.v (Value.int IntKind.i64 (IntKind.i64.wrap ((↑s.size : Int) + (1 : Int))))).den ∧ True) ∧ LeH [] []) ∧ ∀ (n1 : Nat), n1 ≤ s.size + (1 : Nat) ∧ noPre p s (0 : Nat) n1 → br (decide ((↑n1 : Int) < IntKind.i64.wrap ((↑s.size : Int) + (1 : Int)))) (((0 : Int) ≤ (↑n1 : Int) ∧ (↑n1 : Int) ≤ (↑s.size : Int)) ∧ (p.size ≤ (1000000 : Nat) ∧ (subS s (0 : Nat) (↑n1 : Int).toNat).size ≤ (1000000 : Nat)) ∧ br (likeB p (subS s (0 : Nat) (↑n1 : Int).toNat)) (R (AV.v (Value.bool true))) (∃ (x' : Nat), (x' ≤ s.size + (1 : Nat) ∧ noPre p s (0 : Nat) x') ∧ s.size + (1 : Nat) - x' < s.size + (1 : Nat) - n1 ∧ ((AV.v (Value.int IntKind.i64 (IntKind.i64.wrap ((↑n1 : Int) + (1 : Int))))).den = (AV.v (Value.int IntKind.i64 (↑x' : Int))).den ∧ (AV.v (Value.string p)).den = (AV.v (Value.string p)).den ∧ (AV.v (Value.string s)).den = (AV.v (Value.string s)).den ∧ (AV.v (Value.int IntKind.i64 (IntKind.i64.wrap ((↑s.size : Int) + (1 : Int))))).den = (AV.v (Value.int IntKind.i64 (IntKind.i64.wrap ((↑s.size : Int) + (1 : Int))))).den ∧ True) ∧ LeH [] [])) (R (AV.v (Value.bool false))))) (p.size + (1 : Nat) ≤ (9223372036854775807 : Nat) ∧ ((catS p (ByteArray.mk #[(42 : UInt8)])).size ≤ (1000000 : Nat) ∧ s.size ≤ (1000000 : Nat)) ∧ R (AV.v (Value.bool (likeB (catS p (ByteArray.mk #[(42 : UInt8)])) s)))))) : LC Try.prog 48 [.v (.string p), .v (.string s)] [] (fun z_ _ => R z_) :=
  lc_of_exec (tbl := v2) tab_ok v2_ok mixed (bgI p s) 2 _ Try.func48 rfl Try.ntmps48 (by decide) (by kernel_rfl) (Nat.le_of_ble_eq_true rfl) (@Eq.mpr (execN tab v2 (bgI p s) 2 Try.f48.ntmps [] none 0 (body Try.f48) (argsT [.v (.string p), .v (.string s)] 0) [] (post Try.f48 tab (retK (fun z_ _ => R z_)))) _ (by kernel_rfl) h)

set_option maxRecDepth 100000 in
theorem begins_lc (p s : ByteArray) (hq : p.size ≤ 100000 ∧ s.size ≤ 100000) : LC Try.prog 48 [.v (.string p), .v (.string s)] [] (fun z_ _ => z_ = .v (.bool (hitB p s 0))) :=
  begins_vc p s (by
    simp only [true_and, and_true, br_iff, Bool.not_eq_true', Bool.not_eq_false', decide_eq_true_eq, decide_eq_false_iff_not, ge_iff_le, gt_iff_lt, beq_iff_eq, beq_eq_false_iff_ne, AV.den, Value.int.injEq, Int.toNat_natCast, size_catS, size_subS]
    have st : p.data.toList ≠ [] → p.data.toList.getLast? ≠ some 126 → AV.v (Value.bool (likeB (catS p (ByteArray.mk #[42])) s)) = AV.v (Value.bool (hitB p s 0)) := fun _ h => by
      rw [show (ByteArray.mk #[42]) = mkS [42] from rfl, like_star (fun _ => h)]
    have z42 : (ByteArray.mk #[42]).size = 1 := rfl
    refine ⟨fun h => ?_, fun h => ?_⟩
    · have e0 : IntKind.i64.wrap ((p.size : Int) - 1) = ((p.size - 1 : Nat) : Int) := by rw [w64 (by omega)]; omega
      have es : IntKind.i64.wrap ((s.size : Int) + 1) = ((s.size + 1 : Nat) : Int) := by rw [w64 (by omega)]; omega
      have hl := last_iff (p := p) (by omega)
      have hne : p.data.toList ≠ [] := fun e => by
        have := size_data p
        rw [e] at this; simp at this; omega
      simp only [e0, es, Int.toNat_natCast]
      refine ⟨⟨by omega, by omega⟩, Nat.le_refl _, fun hf => ⟨by omega, ⟨by omega, by omega⟩, st hne (fun e => ?_)⟩, fun ht => ⟨⟨0, ⟨by omega, ⟨fun q _ h => by omega⟩⟩, rfl, LeH.refl _⟩, fun k hk => ⟨fun hlt => ⟨⟨by omega, by omega⟩, ⟨by omega, by omega⟩, fun hy => ?_, fun hn => ?_⟩, fun hge => ?_⟩⟩⟩
      · rw [hl.2 e] at hf; cases hf
      · rw [(hit_iff (by omega)).2 ⟨k, by omega, by omega, hy⟩]
      · have e1 : IntKind.i64.wrap ((k : Int) + 1) = ((k + 1 : Nat) : Int) := by rw [w64 (by omega)]; omega
        exact ⟨k + 1, ⟨by omega, noPre_step hk.2 hn⟩, by omega, e1, LeH.refl _⟩
      · have : k = s.size + 1 := by omega
        subst this
        rw [noPre_hit (by omega) hk.2]
    · have hne : p.data.toList = [] := List.eq_nil_of_length_eq_zero (by rw [size_data]; omega)
      refine ⟨by omega, ⟨by omega, by omega⟩, ?_⟩
      rw [show (ByteArray.mk #[42]) = mkS [42] from rfl, like_star (fun h => absurd hne h)])

def beginsH : List AV → Option (Prop × AV)
  | [.v (.string p), .v (.string s)] => some (p.size ≤ 100000 ∧ s.size ≤ 100000, .v (.bool (hitB p s 0)))
  | _ => none

theorem begins_ok : PrOk Try.prog 48 beginsH := PrOk.of_lc (enters_of (c := body Try.f48) Try.func48 rfl (by kernel_rfl)) (by
  intro args p h hp
  unfold beginsH at h
  split at h
  · cases h; exact begins_lc _ _ hp
  · cases h)


def v3 : Tbl := (48, .pre beginsH) :: t2

theorem v3_ok : TblOk Try.prog v3 := ⟨begins_ok, t2_ok⟩


def searchCI : Handler := inlH tab v3 (seI) 2 Try.f47 3

set_option maxRecDepth 100000 in
theorem searchC_ok : HOk Try.prog 47 searchCI :=
  inl_ok (tbl := v3) tab_ok v3_ok mixed (seI) 2 _ 3 Try.func47 rfl Try.ntmps47 (by decide) (by kernel_rfl) (Nat.le_of_ble_eq_true rfl)


def v4 : Tbl := (47, .gen searchCI) :: v3

theorem v4_ok : TblOk Try.prog v4 := ⟨searchC_ok, v3_ok⟩

def numbersS : Handler := guardH tab v4 noinv Try.f40 Try.f70 70

theorem numbersS_ok : HOk Try.prog 40 numbersS := guard_ok tab_ok v4_ok mixed noinv Try.func40 rfl (by kernel_rfl) Try.func70 rfl (by kernel_rfl)

def v5 : Tbl := (40, .gen numbersS) :: []

theorem v5_ok : TblOk Try.prog v5 := ⟨numbersS_ok, trivial⟩


set_option maxRecDepth 100000 in
theorem search_vc (p s : ByteArray) (from_ : Int) {R : AV → Prop} (h : (∀ (n1 n2 n3 n4 n5 : Nat), n1 = n1 ∧ n2 = n2 ∧ ∀ (n6 : Nat), ((0 : Int) ≤ (0 : Int) ∧ (0 : Int) < (2 : Int)) ∧ n6 = n6 ∧ br (!decide ((↑p.size : Int) ≤ (255 : Int))) (∀ (n7 : Nat), n7 = n7 ∧ n4 = n4 ∧ n5 = n5 ∧ n4 = n4 ∧ n5 = n5 ∧ R (AV.tup [AV.v (Value.int IntKind.i64 (0 : Int)), AV.v (Value.int IntKind.i64 (2 : Int))])) (((0 : Int) ≤ (1 : Int) ∧ (1 : Int) < (2 : Int)) ∧ n6 = n6 ∧ br (!decide ((↑s.size : Int) ≤ (255 : Int))) (∀ (n7 : Nat), n7 = n7 ∧ n4 = n4 ∧ n5 = n5 ∧ n4 = n4 ∧ n5 = n5 ∧ R (AV.tup [AV.v (Value.int IntKind.i64 (0 : Int)), AV.v (Value.int IntKind.i64 (2 : Int))])) (n3 = n3 ∧ br (decide (from_ ≥ (1 : Int))) (n3 = n3 ∧ n2 = n2 ∧ br (!decide (from_ ≤ IntKind.i64.wrap ((↑s.size : Int) + (1 : Int)))) (∀ (n7 : Nat), n7 = n7 ∧ n4 = n4 ∧ n5 = n5 ∧ n4 = n4 ∧ n5 = n5 ∧ R (AV.tup [AV.v (Value.int IntKind.i64 (0 : Int)), AV.v (Value.int IntKind.i64 (2 : Int))])) (n3 = n3 ∧ (∃ (x : Nat), (x ≤ s.size + (1 : Nat) ∧ firstH (hitB p s) (s.size + (1 : Nat) - x) x = searchO p s from_) ∧ ((AV.v (Value.int IntKind.i64 (IntKind.i64.wrap (from_ - (1 : Int))))).den = (AV.v (Value.int IntKind.i64 (↑x : Int))).den ∧ (AV.ptr (0 : Nat) n1 (0 : Nat)).den = (AV.ptr (0 : Nat) n1 (0 : Nat)).den ∧ (AV.ptr (1 : Nat) n2 (0 : Nat)).den = (AV.ptr (1 : Nat) n2 (0 : Nat)).den ∧ (AV.ptr (2 : Nat) n3 (0 : Nat)).den = (AV.ptr (2 : Nat) n3 (0 : Nat)).den ∧ True) ∧ LeH [Blk.mk n1 (Cont.cells [AV.v (Value.string p)] (9 : Nat)) true, Blk.mk n2 (Cont.cells [AV.v (Value.string s)] (9 : Nat)) true, Blk.mk n3 (Cont.cells [AV.v (Value.int IntKind.i64 from_)] (3 : Nat)) true, Blk.mk n4 (Cont.cells [AV.v (Value.int IntKind.i64 (0 : Int))] (3 : Nat)) true, Blk.mk n5 (Cont.cells [AV.v (Value.int IntKind.i64 (0 : Int))] (22 : Nat)) true, Blk.mk n6 (Cont.cells [AV.v (Value.string p), AV.v (Value.string s)] (9 : Nat)) true] [Blk.mk n1 (Cont.cells [AV.v (Value.string p)] (9 : Nat)) true, Blk.mk n2 (Cont.cells [AV.v (Value.string s)] (9 : Nat)) true, Blk.mk n3 (Cont.cells [AV.v (Value.int IntKind.i64 from_)] (3 : Nat)) true, Blk.mk n4 (Cont.cells [AV.v (Value.int IntKind.i64 (0 : Int))] (3 : Nat)) true, Blk.mk n5 (Cont.cells [AV.v (Value.int IntKind.i64 (0 : Int))] (22 : Nat)) true, Blk.mk n6 (Cont.cells [AV.v (Value.string p), AV.v (Value.string s)] (9 : Nat)) true]) ∧ ∀ (n7 : Nat), n7 ≤ s.size + (1 : Nat) ∧ firstH (hitB p s) (s.size + (1 : Nat) - n7) n7 = searchO p s from_ → n2 = n2 ∧ br (decide ((↑n7 : Int) ≤ (↑s.size : Int))) (n1 = n1 ∧ n2 = n2 ∧ ((0 : Int) ≤ (↑n7 : Int) ∧ (↑n7 : Int) ≤ (↑s.size : Int)) ∧ s.size ≤ s.size ∧ (p.size ≤ (100000 : Nat) ∧ (subS s (↑n7 : Int).toNat s.size).size ≤ (100000 : Nat)) ∧ br (hitB p (subS s (↑n7 : Int).toNat s.size) (0 : Nat)) (n4 = n4 ∧ n5 = n5 ∧ n4 = n4 ∧ n5 = n5 ∧ R (AV.tup [AV.v (Value.int IntKind.i64 (IntKind.i64.wrap ((↑n7 : Int) + (1 : Int)))), AV.v (Value.int IntKind.i64 (0 : Int))])) (∃ (x' : Nat), (x' ≤ s.size + (1 : Nat) ∧ firstH (hitB p s) (s.size + (1 : Nat) - x') x' = searchO p s from_) ∧ s.size + (1 : Nat) - x' < s.size + (1 : Nat) - n7 ∧ ((AV.v (Value.int IntKind.i64 (IntKind.i64.wrap ((↑n7 : Int) + (1 : Int))))).den = (AV.v (Value.int IntKind.i64 (↑x' : Int))).den ∧ (AV.ptr (0 : Nat) n1 (0 : Nat)).den = (AV.ptr (0 : Nat) n1 (0 : Nat)).den ∧ (AV.ptr (1 : Nat) n2 (0 : Nat)).den = (AV.ptr (1 : Nat) n2 (0 : Nat)).den ∧ (AV.ptr (2 : Nat) n3 (0 : Nat)).den = (AV.ptr (2 : Nat) n3 (0 : Nat)).den ∧ True) ∧ LeH [Blk.mk n1 (Cont.cells [AV.v (Value.string p)] (9 : Nat)) true, Blk.mk n2 (Cont.cells [AV.v (Value.string s)] (9 : Nat)) true, Blk.mk n3 (Cont.cells [AV.v (Value.int IntKind.i64 from_)] (3 : Nat)) true, Blk.mk n4 (Cont.cells [AV.v (Value.int IntKind.i64 (0 : Int))] (3 : Nat)) true, Blk.mk n5 (Cont.cells [AV.v (Value.int IntKind.i64 (0 : Int))] (22 : Nat)) true, Blk.mk n6 (Cont.cells [AV.v (Value.string p), AV.v (Value.string s)] (9 : Nat)) true] [Blk.mk n1 (Cont.cells [AV.v (Value.string p)] (9 : Nat)) true, Blk.mk n2 (Cont.cells [AV.v (Value.string s)] (9 : Nat)) true, Blk.mk n3 (Cont.cells [AV.v (Value.int IntKind.i64 from_)] (3 : Nat)) true, Blk.mk n4 (Cont.cells [AV.v (Value.int IntKind.i64 (0 : Int))] (3 : Nat)) true, Blk.mk n5 (Cont.cells [AV.v (Value.int IntKind.i64 (0 : Int))] (22 : Nat)) true, Blk.mk n6 (Cont.cells [AV.v (Value.string p), AV.v (Value.string s)] (9 : Nat)) true])) (∀ (n9 : Nat), n9 = n9 ∧ n4 = n4 ∧ n5 = n5 ∧ n4 = n4 ∧ n5 = n5 ∧ R (AV.tup [AV.v (Value.int IntKind.i64 (0 : Int)), AV.v (Value.int IntKind.i64 (2 : Int))])))) (∀ (n7 : Nat), n7 = n7 ∧ n4 = n4 ∧ n5 = n5 ∧ n4 = n4 ∧ n5 = n5 ∧ R (AV.tup [AV.v (Value.int IntKind.i64 (0 : Int)), AV.v (Value.int IntKind.i64 (2 : Int))])))))) : LC Try.prog 15 [.v (.string p), .v (.string s), .v (.int .i64 from_)] [] (fun z_ _ => R z_) :=
  lc_of_exec (tbl := v5) tab_ok v5_ok mixed noinv 2 _ Try.func15 rfl Try.ntmps15 (by decide) (by kernel_rfl) (Nat.le_of_ble_eq_true rfl) (@Eq.mpr (execN tab v5 noinv 2 Try.f15.ntmps [] none 0 (body Try.f15) (argsT [.v (.string p), .v (.string s), .v (.int .i64 from_)] 0) [] (post Try.f15 tab (retK (fun z_ _ => R z_)))) _ (by kernel_rfl) h)

set_option maxRecDepth 100000 in
theorem search_lc (p s : ByteArray) (from_ : Int) (hq : from_ ≤ 9223372036854775807) : LC Try.prog 15 [.v (.string p), .v (.string s), .v (.int .i64 from_)] [] (fun z_ _ => z_ = .tup [.v (.int .i64 (nOf (searchO p s from_))), .v (.int .i64 (cOf (searchO p s from_)))]) :=
  search_vc p s from_ (by
    simp only [true_and, and_true, br_iff, Bool.not_eq_true', Bool.not_eq_false', decide_eq_true_eq, decide_eq_false_iff_not, ge_iff_le, gt_iff_lt, beq_iff_eq, beq_eq_false_iff_ne, AV.den, Value.int.injEq, Int.toNat_natCast, size_catS, size_subS]
    intro n1 n2 n3 n4 n5 n6
    have no : ¬ (p.size ≤ 255 ∧ s.size ≤ 255 ∧ 1 ≤ from_ ∧ from_ ≤ s.size + 1) → AV.tup [AV.v (Value.int IntKind.i64 0), AV.v (Value.int IntKind.i64 2)] = .tup [.v (.int .i64 (nOf (searchO p s from_))), .v (.int .i64 (cOf (searchO p s from_)))] := fun h => by
      rw [show searchO p s from_ = none from if_neg h]; rfl
    refine ⟨by decide, fun h n7 => no (by omega), fun h1 => ⟨by decide, fun h n7 => no (by omega), fun h2 => ?_⟩⟩
    have es : IntKind.i64.wrap ((s.size : Int) + 1) = (s.size : Int) + 1 := w64 (by omega)
    simp only [es]
    refine ⟨fun h3 => ⟨fun h n7 => no (by omega), fun h4 => ?_⟩, fun h n7 => no (by omega)⟩
    have hr : searchO p s from_ = _ := if_pos ⟨by omega, by omega, h3, h4⟩
    refine ⟨⟨(from_ - 1).toNat, ⟨by omega, hr.symm⟩, by rw [w64 (by omega)]; omega, LeH.refl _⟩, fun i hi => ?_⟩
    obtain ⟨i1, i2⟩ := hi
    have e1 : IntKind.i64.wrap ((i : Int) + 1) = (i : Int) + 1 := w64 (by omega)
    simp only [e1, hit_sub]
    refine ⟨fun h => ⟨⟨by omega, by omega⟩, Nat.le_refl _, ⟨by omega, by omega⟩, fun hy => ?_, fun hn => ⟨i + 1, ⟨by omega, by rw [← i2, first_no (by omega) hn]⟩, by omega, by omega, LeH.refl _⟩⟩, fun h n8 => ?_⟩
    · rw [← i2, first_yes (by omega) hy]; rfl
    · rw [← i2, first_end (by omega)]; rfl)

def searchH : List AV → Option (Prop × AV)
  | [.v (.string p), .v (.string s), .v (.int .i64 from_)] => some (from_ ≤ 9223372036854775807, .tup [.v (.int .i64 (nOf (searchO p s from_))), .v (.int .i64 (cOf (searchO p s from_)))])
  | _ => none

theorem search_ok : PrOk Try.prog 15 searchH := PrOk.of_lc (enters_of (c := body Try.f15) Try.func15 rfl (by kernel_rfl)) (by
  intro args p h hp
  unfold searchH at h
  split at h
  · cases h; exact search_lc _ _ _ hp
  · cases h)


end Go.Proofs.Ytgafgejkijbmpaa

