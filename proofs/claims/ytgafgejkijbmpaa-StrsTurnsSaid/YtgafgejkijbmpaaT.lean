/- Strs: what is like a pattern, as the program tells it. -/
import Derived.Test.YtgafgejkijbmpaaS
namespace Go.Eng

/-- How far the greedy way is from its end. -/
def gmu (L n i j : Nat) (back : Int) (f : Nat) : Nat := (L - (back + 1).toNat) * ((L + n + 2) * (L + n + 2)) + (n - f) * (L + n + 2) + (L - i) + (n - j)

theorem gmu_row {L n i j f : Nat} {back : Int} (hi : i < L) (hj : j ≤ n) (hb : back < i) : gmu L n (i + 1) j (i : Int) j < gmu L n i j back f := by
  unfold gmu
  generalize hB : L + n + 2 = B
  have h1 : (L - (i + 1) + 1) * (B * B) ≤ (L - (back + 1).toNat) * (B * B) := Nat.mul_le_mul_right _ (by omega)
  rw [Nat.succ_mul] at h1
  have h2 : (n - j) * B ≤ n * B := Nat.mul_le_mul_right _ (by omega)
  have h3 : (n + 2) * B ≤ B * B := Nat.mul_le_mul_right _ (by omega)
  rw [Nat.add_mul] at h3
  have e : ((i : Int) + 1).toNat = i + 1 := by omega
  rw [e]
  omega

theorem gmu_fit {L n i j f : Nat} {back : Int} (hi : i < L) (hj : j < n) : gmu L n (i + 1) (j + 1) back f < gmu L n i j back f := by
  unfold gmu
  omega

theorem gmu_more {L n i j f b : Nat} (hf : f < n) (hi : i ≤ L) (hj : j ≤ n) : gmu L n (b + 1) (f + 1) (b : Int) (f + 1) < gmu L n i j (b : Int) f := by
  unfold gmu
  generalize hB : L + n + 2 = B
  have e : n - f = n - (f + 1) + 1 := by omega
  rw [e, Nat.succ_mul]
  omega

theorem no_go {p : List St} {s : List UInt8} {i j : Nat} (h : ∀ x, p[i]? = some x → x ≠ .row ∧ ∀ c, s[j]? = some c → fitsS x c = false) (hi : i ≤ p.length) (hlt : j < s.length ∨ i < p.length) : mt (p.drop i) (s.drop j) = false := by
  by_cases h1 : i < p.length
  · obtain ⟨g1, g2⟩ := h _ (List.getElem?_eq_getElem h1)
    by_cases h2 : j < s.length
    · rw [mt_fits (List.getElem?_eq_getElem h1) (List.getElem?_eq_getElem h2) g1, g2 _ (List.getElem?_eq_getElem h2)]
      rfl
    · rw [List.drop_eq_getElem_cons h1, show s.drop j = [] from List.drop_eq_nil_of_le (by omega)]
      cases hx : p[i] with
      | row => exact absurd hx g1
      | one => rfl
      | lit c => rfl
  · rw [show p.drop i = [] from List.drop_eq_nil_of_le (by omega)]
    rcases hlt with h2 | h2
    · rw [List.drop_eq_getElem_cons h2]; rfl
    · omega

/-- What is known at the head of the greedy way's loop. -/
def gI (p s : ByteArray) : Nat → TT → HH → LI := fun _ T H =>
  match T.get 5 with
  | some (.sl _ _ _ _ _ _) => .inv (Nat × Nat × Int × Nat) (fun x => ((6, .v (.int .i64 (x.1 : Int))) :: (7, .v (.int .i64 (x.2.1 : Int))) :: (8, .v (.int .i64 x.2.2.1)) :: (9, .v (.int .i64 (x.2.2.2 : Int))) :: keepT [0, 1, 5] T, H)) (fun x => Greedy (Sp.pat p) (Sp.mapB Sp.upB s).data.toList x.1 x.2.1 x.2.2.1 x.2.2.2) (fun x => gmu (Sp.pat p).length s.size x.1 x.2.1 x.2.2.1 x.2.2.2)
  | _ => .unroll 2

end Go.Eng
namespace Go.Proofs.Ytgafgejkijbmpaa
open Go Go.Eng Go.Sp
set_option linter.unusedVariables false
set_option linter.unusedSimpArgs false


set_option maxRecDepth 100000 in
theorem fits_vc (o r : Bool) (c d : Int) {R : AV → Prop} (h : (∀ (n1 : Nat), n1 = n1 ∧ br o (R (AV.v (Value.bool true))) (n1 = n1 ∧ br (!r) (n1 = n1 ∧ R (AV.v (Value.bool (c == d)))) (R (AV.v (Value.bool false)))))) : LC Try.prog 90 [.agg [.v (.bool o), .v (.bool r), .v (.int .u8 c)], .v (.int .u8 d)] [] (fun z_ _ => R z_) :=
  lc_of_exec (tbl := []) tab_ok trivial mixed noinv 2 _ Try.func90 rfl Try.ntmps90 (by decide) (by kernel_rfl) (Nat.le_of_ble_eq_true rfl) (@Eq.mpr (execN tab [] noinv 2 Try.f90.ntmps [] none 0 (body Try.f90) (argsT [.agg [.v (.bool o), .v (.bool r), .v (.int .u8 c)], .v (.int .u8 d)] 0) [] (post Try.f90 tab (retK (fun z_ _ => R z_)))) _ (by kernel_rfl) h)

set_option maxRecDepth 100000 in
theorem fits_lc (o r : Bool) (c d : Int) : LC Try.prog 90 [.agg [.v (.bool o), .v (.bool r), .v (.int .u8 c)], .v (.int .u8 d)] [] (fun z_ _ => z_ = .v (.bool (o || (!r && (c == d))))) :=
  fits_vc o r c d (by
    intro n1
    simp only [true_and, and_true, br_iff, Bool.not_eq_true', Bool.not_eq_false']
    refine ⟨fun h => by rw [h]; rfl, fun h => ⟨fun h2 => by rw [h, h2]; rfl, fun h2 => by rw [h, h2]; rfl⟩⟩)

def fitsH : List AV → Option AV
  | [.agg [.v (.bool o), .v (.bool r), .v (.int .u8 c)], .v (.int .u8 d)] => some (.v (.bool (o || (!r && (c == d)))))
  | _ => none

theorem fits_ok : POk Try.prog 90 fitsH := POk.of_lc (enters_of (c := body Try.f90) Try.func90 rfl (by kernel_rfl)) (by
  intro args v h
  unfold fitsH at h
  split at h
  · cases h; exact fits_lc _ _ _ _
  · cases h)


def q1 : Tbl := (89, .gen stepsH) :: (29, .pure foldH) :: (90, .pure fitsH) :: []

theorem q1_ok : TblOk Try.prog q1 := ⟨psteps_ok, fold_ok, fits_ok, trivial⟩


set_option maxRecDepth 100000 in
theorem like_vc (p s : ByteArray) {R : AV → Prop} (h : (p.size ≤ (1000000 : Nat) ∧ ((pat p).length = (0 : Nat) → br (decide ((0 : Int) < (↑(mapB upB s).size : Int))) (R (AV.v (Value.bool false))) (R (AV.v (Value.bool true)))) ∧ ∀ (n1 n2 : Nat) (o r : Nat → Bool) (c : Nat → Int), (0 : Nat) < (pat p).length → (pat p).length ≤ n2 → stRep (pat p) o r c → (∃ (x : Nat × Nat × Int × Nat), Greedy (pat p) (mapB upB s).data.toList x.fst x.snd.fst x.snd.snd.fst x.snd.snd.snd ∧ ((AV.v (Value.int IntKind.i64 (0 : Int))).den = (AV.v (Value.int IntKind.i64 (↑x.fst : Int))).den ∧ (AV.v (Value.int IntKind.i64 (0 : Int))).den = (AV.v (Value.int IntKind.i64 (↑x.snd.fst : Int))).den ∧ (AV.v (Value.int IntKind.i64 (-1 : Int))).den = (AV.v (Value.int IntKind.i64 x.snd.snd.fst)).den ∧ (AV.v (Value.int IntKind.i64 (0 : Int))).den = (AV.v (Value.int IntKind.i64 (↑x.snd.snd.snd : Int))).den ∧ (AV.v (Value.string p)).den = (AV.v (Value.string p)).den ∧ (AV.v (Value.string (mapB upB s))).den = (AV.v (Value.string (mapB upB s))).den ∧ (AV.sl (0 : Nat) n1 (0 : Nat) (3 : Nat) (pat p).length n2).den = (AV.sl (0 : Nat) n1 (0 : Nat) (3 : Nat) (pat p).length n2).den ∧ True) ∧ LeH [Blk.mk n1 (Cont.rows n2 [Col.bools o, Col.bools r, Col.ints IntKind.u8 c] (93 : TypeId)) true] [Blk.mk n1 (Cont.rows n2 [Col.bools o, Col.bools r, Col.ints IntKind.u8 c] (93 : TypeId)) true]) ∧ ∀ (x : Nat × Nat × Int × Nat), Greedy (pat p) (mapB upB s).data.toList x.fst x.snd.fst x.snd.snd.fst x.snd.snd.snd → br (decide ((↑x.snd.fst : Int) < (↑(mapB upB s).size : Int))) (br (decide ((↑x.fst : Int) < (↑(pat p).length : Int))) (((0 : Int) ≤ (↑x.fst : Int) ∧ (↑x.fst : Int) < (↑(pat p).length : Int)) ∧ n1 = n1 ∧ (0 : Nat) + (↑x.fst : Int).toNat < n2 ∧ br (r ((0 : Nat) + (↑x.fst : Int).toNat)) (∃ (x' : Nat × Nat × Int × Nat), Greedy (pat p) (mapB upB s).data.toList x'.fst x'.snd.fst x'.snd.snd.fst x'.snd.snd.snd ∧ gmu (pat p).length s.size x'.fst x'.snd.fst x'.snd.snd.fst x'.snd.snd.snd < gmu (pat p).length s.size x.fst x.snd.fst x.snd.snd.fst x.snd.snd.snd ∧ ((AV.v (Value.int IntKind.i64 (IntKind.i64.wrap ((↑x.fst : Int) + (1 : Int))))).den = (AV.v (Value.int IntKind.i64 (↑x'.fst : Int))).den ∧ (AV.v (Value.int IntKind.i64 (↑x.snd.fst : Int))).den = (AV.v (Value.int IntKind.i64 (↑x'.snd.fst : Int))).den ∧ (AV.v (Value.int IntKind.i64 (↑x.fst : Int))).den = (AV.v (Value.int IntKind.i64 x'.snd.snd.fst)).den ∧ (AV.v (Value.int IntKind.i64 (↑x.snd.fst : Int))).den = (AV.v (Value.int IntKind.i64 (↑x'.snd.snd.snd : Int))).den ∧ (AV.v (Value.string p)).den = (AV.v (Value.string p)).den ∧ (AV.v (Value.string (mapB upB s))).den = (AV.v (Value.string (mapB upB s))).den ∧ (AV.sl (0 : Nat) n1 (0 : Nat) (3 : Nat) (pat p).length n2).den = (AV.sl (0 : Nat) n1 (0 : Nat) (3 : Nat) (pat p).length n2).den ∧ True) ∧ LeH [Blk.mk n1 (Cont.rows n2 [Col.bools o, Col.bools r, Col.ints IntKind.u8 c] (93 : TypeId)) true] [Blk.mk n1 (Cont.rows n2 [Col.bools o, Col.bools r, Col.ints IntKind.u8 c] (93 : TypeId)) true]) (br (decide ((↑x.fst : Int) < (↑(pat p).length : Int))) (br (decide ((↑x.snd.fst : Int) < (↑(mapB upB s).size : Int))) (((0 : Int) ≤ (↑x.fst : Int) ∧ (↑x.fst : Int) < (↑(pat p).length : Int)) ∧ n1 = n1 ∧ (0 : Nat) + (↑x.fst : Int).toNat < n2 ∧ ((0 : Int) ≤ (↑x.snd.fst : Int) ∧ (↑x.snd.fst : Int) < (↑(mapB upB s).size : Int)) ∧ br (o ((0 : Nat) + (↑x.fst : Int).toNat) || !r ((0 : Nat) + (↑x.fst : Int).toNat) && c ((0 : Nat) + (↑x.fst : Int).toNat) == byteAt (mapB upB s) (↑x.snd.fst : Int).toNat) (∃ (x' : Nat × Nat × Int × Nat), Greedy (pat p) (mapB upB s).data.toList x'.fst x'.snd.fst x'.snd.snd.fst x'.snd.snd.snd ∧ gmu (pat p).length s.size x'.fst x'.snd.fst x'.snd.snd.fst x'.snd.snd.snd < gmu (pat p).length s.size x.fst x.snd.fst x.snd.snd.fst x.snd.snd.snd ∧ ((AV.v (Value.int IntKind.i64 (IntKind.i64.wrap ((↑x.fst : Int) + (1 : Int))))).den = (AV.v (Value.int IntKind.i64 (↑x'.fst : Int))).den ∧ (AV.v (Value.int IntKind.i64 (IntKind.i64.wrap ((↑x.snd.fst : Int) + (1 : Int))))).den = (AV.v (Value.int IntKind.i64 (↑x'.snd.fst : Int))).den ∧ (AV.v (Value.int IntKind.i64 x.snd.snd.fst)).den = (AV.v (Value.int IntKind.i64 x'.snd.snd.fst)).den ∧ (AV.v (Value.int IntKind.i64 (↑x.snd.snd.snd : Int))).den = (AV.v (Value.int IntKind.i64 (↑x'.snd.snd.snd : Int))).den ∧ (AV.v (Value.string p)).den = (AV.v (Value.string p)).den ∧ (AV.v (Value.string (mapB upB s))).den = (AV.v (Value.string (mapB upB s))).den ∧ (AV.sl (0 : Nat) n1 (0 : Nat) (3 : Nat) (pat p).length n2).den = (AV.sl (0 : Nat) n1 (0 : Nat) (3 : Nat) (pat p).length n2).den ∧ True) ∧ LeH [Blk.mk n1 (Cont.rows n2 [Col.bools o, Col.bools r, Col.ints IntKind.u8 c] (93 : TypeId)) true] [Blk.mk n1 (Cont.rows n2 [Col.bools o, Col.bools r, Col.ints IntKind.u8 c] (93 : TypeId)) true]) (br (decide (x.snd.snd.fst ≥ (0 : Int))) (br (decide ((↑x.snd.snd.snd : Int) < (↑(mapB upB s).size : Int))) (∃ (x' : Nat × Nat × Int × Nat), Greedy (pat p) (mapB upB s).data.toList x'.fst x'.snd.fst x'.snd.snd.fst x'.snd.snd.snd ∧ gmu (pat p).length s.size x'.fst x'.snd.fst x'.snd.snd.fst x'.snd.snd.snd < gmu (pat p).length s.size x.fst x.snd.fst x.snd.snd.fst x.snd.snd.snd ∧ ((AV.v (Value.int IntKind.i64 (IntKind.i64.wrap (x.snd.snd.fst + (1 : Int))))).den = (AV.v (Value.int IntKind.i64 (↑x'.fst : Int))).den ∧ (AV.v (Value.int IntKind.i64 (IntKind.i64.wrap ((↑x.snd.snd.snd : Int) + (1 : Int))))).den = (AV.v (Value.int IntKind.i64 (↑x'.snd.fst : Int))).den ∧ (AV.v (Value.int IntKind.i64 x.snd.snd.fst)).den = (AV.v (Value.int IntKind.i64 x'.snd.snd.fst)).den ∧ (AV.v (Value.int IntKind.i64 (IntKind.i64.wrap ((↑x.snd.snd.snd : Int) + (1 : Int))))).den = (AV.v (Value.int IntKind.i64 (↑x'.snd.snd.snd : Int))).den ∧ (AV.v (Value.string p)).den = (AV.v (Value.string p)).den ∧ (AV.v (Value.string (mapB upB s))).den = (AV.v (Value.string (mapB upB s))).den ∧ (AV.sl (0 : Nat) n1 (0 : Nat) (3 : Nat) (pat p).length n2).den = (AV.sl (0 : Nat) n1 (0 : Nat) (3 : Nat) (pat p).length n2).den ∧ True) ∧ LeH [Blk.mk n1 (Cont.rows n2 [Col.bools o, Col.bools r, Col.ints IntKind.u8 c] (93 : TypeId)) true] [Blk.mk n1 (Cont.rows n2 [Col.bools o, Col.bools r, Col.ints IntKind.u8 c] (93 : TypeId)) true]) (R (AV.v (Value.bool false)))) (R (AV.v (Value.bool false))))) (br (decide (x.snd.snd.fst ≥ (0 : Int))) (br (decide ((↑x.snd.snd.snd : Int) < (↑(mapB upB s).size : Int))) (∃ (x' : Nat × Nat × Int × Nat), Greedy (pat p) (mapB upB s).data.toList x'.fst x'.snd.fst x'.snd.snd.fst x'.snd.snd.snd ∧ gmu (pat p).length s.size x'.fst x'.snd.fst x'.snd.snd.fst x'.snd.snd.snd < gmu (pat p).length s.size x.fst x.snd.fst x.snd.snd.fst x.snd.snd.snd ∧ ((AV.v (Value.int IntKind.i64 (IntKind.i64.wrap (x.snd.snd.fst + (1 : Int))))).den = (AV.v (Value.int IntKind.i64 (↑x'.fst : Int))).den ∧ (AV.v (Value.int IntKind.i64 (IntKind.i64.wrap ((↑x.snd.snd.snd : Int) + (1 : Int))))).den = (AV.v (Value.int IntKind.i64 (↑x'.snd.fst : Int))).den ∧ (AV.v (Value.int IntKind.i64 x.snd.snd.fst)).den = (AV.v (Value.int IntKind.i64 x'.snd.snd.fst)).den ∧ (AV.v (Value.int IntKind.i64 (IntKind.i64.wrap ((↑x.snd.snd.snd : Int) + (1 : Int))))).den = (AV.v (Value.int IntKind.i64 (↑x'.snd.snd.snd : Int))).den ∧ (AV.v (Value.string p)).den = (AV.v (Value.string p)).den ∧ (AV.v (Value.string (mapB upB s))).den = (AV.v (Value.string (mapB upB s))).den ∧ (AV.sl (0 : Nat) n1 (0 : Nat) (3 : Nat) (pat p).length n2).den = (AV.sl (0 : Nat) n1 (0 : Nat) (3 : Nat) (pat p).length n2).den ∧ True) ∧ LeH [Blk.mk n1 (Cont.rows n2 [Col.bools o, Col.bools r, Col.ints IntKind.u8 c] (93 : TypeId)) true] [Blk.mk n1 (Cont.rows n2 [Col.bools o, Col.bools r, Col.ints IntKind.u8 c] (93 : TypeId)) true]) (R (AV.v (Value.bool false)))) (R (AV.v (Value.bool false))))) (br (decide (x.snd.snd.fst ≥ (0 : Int))) (br (decide ((↑x.snd.snd.snd : Int) < (↑(mapB upB s).size : Int))) (∃ (x' : Nat × Nat × Int × Nat), Greedy (pat p) (mapB upB s).data.toList x'.fst x'.snd.fst x'.snd.snd.fst x'.snd.snd.snd ∧ gmu (pat p).length s.size x'.fst x'.snd.fst x'.snd.snd.fst x'.snd.snd.snd < gmu (pat p).length s.size x.fst x.snd.fst x.snd.snd.fst x.snd.snd.snd ∧ ((AV.v (Value.int IntKind.i64 (IntKind.i64.wrap (x.snd.snd.fst + (1 : Int))))).den = (AV.v (Value.int IntKind.i64 (↑x'.fst : Int))).den ∧ (AV.v (Value.int IntKind.i64 (IntKind.i64.wrap ((↑x.snd.snd.snd : Int) + (1 : Int))))).den = (AV.v (Value.int IntKind.i64 (↑x'.snd.fst : Int))).den ∧ (AV.v (Value.int IntKind.i64 x.snd.snd.fst)).den = (AV.v (Value.int IntKind.i64 x'.snd.snd.fst)).den ∧ (AV.v (Value.int IntKind.i64 (IntKind.i64.wrap ((↑x.snd.snd.snd : Int) + (1 : Int))))).den = (AV.v (Value.int IntKind.i64 (↑x'.snd.snd.snd : Int))).den ∧ (AV.v (Value.string p)).den = (AV.v (Value.string p)).den ∧ (AV.v (Value.string (mapB upB s))).den = (AV.v (Value.string (mapB upB s))).den ∧ (AV.sl (0 : Nat) n1 (0 : Nat) (3 : Nat) (pat p).length n2).den = (AV.sl (0 : Nat) n1 (0 : Nat) (3 : Nat) (pat p).length n2).den ∧ True) ∧ LeH [Blk.mk n1 (Cont.rows n2 [Col.bools o, Col.bools r, Col.ints IntKind.u8 c] (93 : TypeId)) true] [Blk.mk n1 (Cont.rows n2 [Col.bools o, Col.bools r, Col.ints IntKind.u8 c] (93 : TypeId)) true]) (R (AV.v (Value.bool false)))) (R (AV.v (Value.bool false)))))) (br (decide ((↑x.fst : Int) < (↑(pat p).length : Int))) (br (decide ((↑x.snd.fst : Int) < (↑(mapB upB s).size : Int))) (((0 : Int) ≤ (↑x.fst : Int) ∧ (↑x.fst : Int) < (↑(pat p).length : Int)) ∧ n1 = n1 ∧ (0 : Nat) + (↑x.fst : Int).toNat < n2 ∧ ((0 : Int) ≤ (↑x.snd.fst : Int) ∧ (↑x.snd.fst : Int) < (↑(mapB upB s).size : Int)) ∧ br (o ((0 : Nat) + (↑x.fst : Int).toNat) || !r ((0 : Nat) + (↑x.fst : Int).toNat) && c ((0 : Nat) + (↑x.fst : Int).toNat) == byteAt (mapB upB s) (↑x.snd.fst : Int).toNat) (∃ (x' : Nat × Nat × Int × Nat), Greedy (pat p) (mapB upB s).data.toList x'.fst x'.snd.fst x'.snd.snd.fst x'.snd.snd.snd ∧ gmu (pat p).length s.size x'.fst x'.snd.fst x'.snd.snd.fst x'.snd.snd.snd < gmu (pat p).length s.size x.fst x.snd.fst x.snd.snd.fst x.snd.snd.snd ∧ ((AV.v (Value.int IntKind.i64 (IntKind.i64.wrap ((↑x.fst : Int) + (1 : Int))))).den = (AV.v (Value.int IntKind.i64 (↑x'.fst : Int))).den ∧ (AV.v (Value.int IntKind.i64 (IntKind.i64.wrap ((↑x.snd.fst : Int) + (1 : Int))))).den = (AV.v (Value.int IntKind.i64 (↑x'.snd.fst : Int))).den ∧ (AV.v (Value.int IntKind.i64 x.snd.snd.fst)).den = (AV.v (Value.int IntKind.i64 x'.snd.snd.fst)).den ∧ (AV.v (Value.int IntKind.i64 (↑x.snd.snd.snd : Int))).den = (AV.v (Value.int IntKind.i64 (↑x'.snd.snd.snd : Int))).den ∧ (AV.v (Value.string p)).den = (AV.v (Value.string p)).den ∧ (AV.v (Value.string (mapB upB s))).den = (AV.v (Value.string (mapB upB s))).den ∧ (AV.sl (0 : Nat) n1 (0 : Nat) (3 : Nat) (pat p).length n2).den = (AV.sl (0 : Nat) n1 (0 : Nat) (3 : Nat) (pat p).length n2).den ∧ True) ∧ LeH [Blk.mk n1 (Cont.rows n2 [Col.bools o, Col.bools r, Col.ints IntKind.u8 c] (93 : TypeId)) true] [Blk.mk n1 (Cont.rows n2 [Col.bools o, Col.bools r, Col.ints IntKind.u8 c] (93 : TypeId)) true]) (br (decide (x.snd.snd.fst ≥ (0 : Int))) (br (decide ((↑x.snd.snd.snd : Int) < (↑(mapB upB s).size : Int))) (∃ (x' : Nat × Nat × Int × Nat), Greedy (pat p) (mapB upB s).data.toList x'.fst x'.snd.fst x'.snd.snd.fst x'.snd.snd.snd ∧ gmu (pat p).length s.size x'.fst x'.snd.fst x'.snd.snd.fst x'.snd.snd.snd < gmu (pat p).length s.size x.fst x.snd.fst x.snd.snd.fst x.snd.snd.snd ∧ ((AV.v (Value.int IntKind.i64 (IntKind.i64.wrap (x.snd.snd.fst + (1 : Int))))).den = (AV.v (Value.int IntKind.i64 (↑x'.fst : Int))).den ∧ (AV.v (Value.int IntKind.i64 (IntKind.i64.wrap ((↑x.snd.snd.snd : Int) + (1 : Int))))).den = (AV.v (Value.int IntKind.i64 (↑x'.snd.fst : Int))).den ∧ (AV.v (Value.int IntKind.i64 x.snd.snd.fst)).den = (AV.v (Value.int IntKind.i64 x'.snd.snd.fst)).den ∧ (AV.v (Value.int IntKind.i64 (IntKind.i64.wrap ((↑x.snd.snd.snd : Int) + (1 : Int))))).den = (AV.v (Value.int IntKind.i64 (↑x'.snd.snd.snd : Int))).den ∧ (AV.v (Value.string p)).den = (AV.v (Value.string p)).den ∧ (AV.v (Value.string (mapB upB s))).den = (AV.v (Value.string (mapB upB s))).den ∧ (AV.sl (0 : Nat) n1 (0 : Nat) (3 : Nat) (pat p).length n2).den = (AV.sl (0 : Nat) n1 (0 : Nat) (3 : Nat) (pat p).length n2).den ∧ True) ∧ LeH [Blk.mk n1 (Cont.rows n2 [Col.bools o, Col.bools r, Col.ints IntKind.u8 c] (93 : TypeId)) true] [Blk.mk n1 (Cont.rows n2 [Col.bools o, Col.bools r, Col.ints IntKind.u8 c] (93 : TypeId)) true]) (R (AV.v (Value.bool false)))) (R (AV.v (Value.bool false))))) (br (decide (x.snd.snd.fst ≥ (0 : Int))) (br (decide ((↑x.snd.snd.snd : Int) < (↑(mapB upB s).size : Int))) (∃ (x' : Nat × Nat × Int × Nat), Greedy (pat p) (mapB upB s).data.toList x'.fst x'.snd.fst x'.snd.snd.fst x'.snd.snd.snd ∧ gmu (pat p).length s.size x'.fst x'.snd.fst x'.snd.snd.fst x'.snd.snd.snd < gmu (pat p).length s.size x.fst x.snd.fst x.snd.snd.fst x.snd.snd.snd ∧ ((AV.v (Value.int IntKind.i64 (IntKind.i64.wrap (x.snd.snd.fst + (1 : Int))))).den = (AV.v (Value.int IntKind.i64 (↑x'.fst : Int))).den ∧ (AV.v (Value.int IntKind.i64 (IntKind.i64.wrap ((↑x.snd.snd.snd : Int) + (1 : Int))))).den = (AV.v (Value.int IntKind.i64 (↑x'.snd.fst : Int))).den ∧ (AV.v (Value.int IntKind.i64 x.snd.snd.fst)).den = (AV.v (Value.int IntKind.i64 x'.snd.snd.fst)).den ∧ (AV.v (Value.int IntKind.i64 (IntKind.i64.wrap ((↑x.snd.snd.snd : Int) + (1 : Int))))).den = (AV.v (Value.int IntKind.i64 (↑x'.snd.snd.snd : Int))).den ∧ (AV.v (Value.string p)).den = (AV.v (Value.string p)).den ∧ (AV.v (Value.string (mapB upB s))).den = (AV.v (Value.string (mapB upB s))).den ∧ (AV.sl (0 : Nat) n1 (0 : Nat) (3 : Nat) (pat p).length n2).den = (AV.sl (0 : Nat) n1 (0 : Nat) (3 : Nat) (pat p).length n2).den ∧ True) ∧ LeH [Blk.mk n1 (Cont.rows n2 [Col.bools o, Col.bools r, Col.ints IntKind.u8 c] (93 : TypeId)) true] [Blk.mk n1 (Cont.rows n2 [Col.bools o, Col.bools r, Col.ints IntKind.u8 c] (93 : TypeId)) true]) (R (AV.v (Value.bool false)))) (R (AV.v (Value.bool false))))) (br (decide (x.snd.snd.fst ≥ (0 : Int))) (br (decide ((↑x.snd.snd.snd : Int) < (↑(mapB upB s).size : Int))) (∃ (x' : Nat × Nat × Int × Nat), Greedy (pat p) (mapB upB s).data.toList x'.fst x'.snd.fst x'.snd.snd.fst x'.snd.snd.snd ∧ gmu (pat p).length s.size x'.fst x'.snd.fst x'.snd.snd.fst x'.snd.snd.snd < gmu (pat p).length s.size x.fst x.snd.fst x.snd.snd.fst x.snd.snd.snd ∧ ((AV.v (Value.int IntKind.i64 (IntKind.i64.wrap (x.snd.snd.fst + (1 : Int))))).den = (AV.v (Value.int IntKind.i64 (↑x'.fst : Int))).den ∧ (AV.v (Value.int IntKind.i64 (IntKind.i64.wrap ((↑x.snd.snd.snd : Int) + (1 : Int))))).den = (AV.v (Value.int IntKind.i64 (↑x'.snd.fst : Int))).den ∧ (AV.v (Value.int IntKind.i64 x.snd.snd.fst)).den = (AV.v (Value.int IntKind.i64 x'.snd.snd.fst)).den ∧ (AV.v (Value.int IntKind.i64 (IntKind.i64.wrap ((↑x.snd.snd.snd : Int) + (1 : Int))))).den = (AV.v (Value.int IntKind.i64 (↑x'.snd.snd.snd : Int))).den ∧ (AV.v (Value.string p)).den = (AV.v (Value.string p)).den ∧ (AV.v (Value.string (mapB upB s))).den = (AV.v (Value.string (mapB upB s))).den ∧ (AV.sl (0 : Nat) n1 (0 : Nat) (3 : Nat) (pat p).length n2).den = (AV.sl (0 : Nat) n1 (0 : Nat) (3 : Nat) (pat p).length n2).den ∧ True) ∧ LeH [Blk.mk n1 (Cont.rows n2 [Col.bools o, Col.bools r, Col.ints IntKind.u8 c] (93 : TypeId)) true] [Blk.mk n1 (Cont.rows n2 [Col.bools o, Col.bools r, Col.ints IntKind.u8 c] (93 : TypeId)) true]) (R (AV.v (Value.bool false)))) (R (AV.v (Value.bool false)))))) (br (decide ((↑x.fst : Int) < (↑(pat p).length : Int))) (br (decide ((↑x.fst : Int) < (↑(pat p).length : Int))) (((0 : Int) ≤ (↑x.fst : Int) ∧ (↑x.fst : Int) < (↑(pat p).length : Int)) ∧ n1 = n1 ∧ (0 : Nat) + (↑x.fst : Int).toNat < n2 ∧ br (r ((0 : Nat) + (↑x.fst : Int).toNat)) (∃ (x' : Nat × Nat × Int × Nat), Greedy (pat p) (mapB upB s).data.toList x'.fst x'.snd.fst x'.snd.snd.fst x'.snd.snd.snd ∧ gmu (pat p).length s.size x'.fst x'.snd.fst x'.snd.snd.fst x'.snd.snd.snd < gmu (pat p).length s.size x.fst x.snd.fst x.snd.snd.fst x.snd.snd.snd ∧ ((AV.v (Value.int IntKind.i64 (IntKind.i64.wrap ((↑x.fst : Int) + (1 : Int))))).den = (AV.v (Value.int IntKind.i64 (↑x'.fst : Int))).den ∧ (AV.v (Value.int IntKind.i64 (↑x.snd.fst : Int))).den = (AV.v (Value.int IntKind.i64 (↑x'.snd.fst : Int))).den ∧ (AV.v (Value.int IntKind.i64 (↑x.fst : Int))).den = (AV.v (Value.int IntKind.i64 x'.snd.snd.fst)).den ∧ (AV.v (Value.int IntKind.i64 (↑x.snd.fst : Int))).den = (AV.v (Value.int IntKind.i64 (↑x'.snd.snd.snd : Int))).den ∧ (AV.v (Value.string p)).den = (AV.v (Value.string p)).den ∧ (AV.v (Value.string (mapB upB s))).den = (AV.v (Value.string (mapB upB s))).den ∧ (AV.sl (0 : Nat) n1 (0 : Nat) (3 : Nat) (pat p).length n2).den = (AV.sl (0 : Nat) n1 (0 : Nat) (3 : Nat) (pat p).length n2).den ∧ True) ∧ LeH [Blk.mk n1 (Cont.rows n2 [Col.bools o, Col.bools r, Col.ints IntKind.u8 c] (93 : TypeId)) true] [Blk.mk n1 (Cont.rows n2 [Col.bools o, Col.bools r, Col.ints IntKind.u8 c] (93 : TypeId)) true]) (br (decide ((↑x.fst : Int) < (↑(pat p).length : Int))) (br (decide ((↑x.snd.fst : Int) < (↑(mapB upB s).size : Int))) (((0 : Int) ≤ (↑x.fst : Int) ∧ (↑x.fst : Int) < (↑(pat p).length : Int)) ∧ n1 = n1 ∧ (0 : Nat) + (↑x.fst : Int).toNat < n2 ∧ ((0 : Int) ≤ (↑x.snd.fst : Int) ∧ (↑x.snd.fst : Int) < (↑(mapB upB s).size : Int)) ∧ br (o ((0 : Nat) + (↑x.fst : Int).toNat) || !r ((0 : Nat) + (↑x.fst : Int).toNat) && c ((0 : Nat) + (↑x.fst : Int).toNat) == byteAt (mapB upB s) (↑x.snd.fst : Int).toNat) (∃ (x' : Nat × Nat × Int × Nat), Greedy (pat p) (mapB upB s).data.toList x'.fst x'.snd.fst x'.snd.snd.fst x'.snd.snd.snd ∧ gmu (pat p).length s.size x'.fst x'.snd.fst x'.snd.snd.fst x'.snd.snd.snd < gmu (pat p).length s.size x.fst x.snd.fst x.snd.snd.fst x.snd.snd.snd ∧ ((AV.v (Value.int IntKind.i64 (IntKind.i64.wrap ((↑x.fst : Int) + (1 : Int))))).den = (AV.v (Value.int IntKind.i64 (↑x'.fst : Int))).den ∧ (AV.v (Value.int IntKind.i64 (IntKind.i64.wrap ((↑x.snd.fst : Int) + (1 : Int))))).den = (AV.v (Value.int IntKind.i64 (↑x'.snd.fst : Int))).den ∧ (AV.v (Value.int IntKind.i64 x.snd.snd.fst)).den = (AV.v (Value.int IntKind.i64 x'.snd.snd.fst)).den ∧ (AV.v (Value.int IntKind.i64 (↑x.snd.snd.snd : Int))).den = (AV.v (Value.int IntKind.i64 (↑x'.snd.snd.snd : Int))).den ∧ (AV.v (Value.string p)).den = (AV.v (Value.string p)).den ∧ (AV.v (Value.string (mapB upB s))).den = (AV.v (Value.string (mapB upB s))).den ∧ (AV.sl (0 : Nat) n1 (0 : Nat) (3 : Nat) (pat p).length n2).den = (AV.sl (0 : Nat) n1 (0 : Nat) (3 : Nat) (pat p).length n2).den ∧ True) ∧ LeH [Blk.mk n1 (Cont.rows n2 [Col.bools o, Col.bools r, Col.ints IntKind.u8 c] (93 : TypeId)) true] [Blk.mk n1 (Cont.rows n2 [Col.bools o, Col.bools r, Col.ints IntKind.u8 c] (93 : TypeId)) true]) (br (decide (x.snd.snd.fst ≥ (0 : Int))) (br (decide ((↑x.snd.snd.snd : Int) < (↑(mapB upB s).size : Int))) (∃ (x' : Nat × Nat × Int × Nat), Greedy (pat p) (mapB upB s).data.toList x'.fst x'.snd.fst x'.snd.snd.fst x'.snd.snd.snd ∧ gmu (pat p).length s.size x'.fst x'.snd.fst x'.snd.snd.fst x'.snd.snd.snd < gmu (pat p).length s.size x.fst x.snd.fst x.snd.snd.fst x.snd.snd.snd ∧ ((AV.v (Value.int IntKind.i64 (IntKind.i64.wrap (x.snd.snd.fst + (1 : Int))))).den = (AV.v (Value.int IntKind.i64 (↑x'.fst : Int))).den ∧ (AV.v (Value.int IntKind.i64 (IntKind.i64.wrap ((↑x.snd.snd.snd : Int) + (1 : Int))))).den = (AV.v (Value.int IntKind.i64 (↑x'.snd.fst : Int))).den ∧ (AV.v (Value.int IntKind.i64 x.snd.snd.fst)).den = (AV.v (Value.int IntKind.i64 x'.snd.snd.fst)).den ∧ (AV.v (Value.int IntKind.i64 (IntKind.i64.wrap ((↑x.snd.snd.snd : Int) + (1 : Int))))).den = (AV.v (Value.int IntKind.i64 (↑x'.snd.snd.snd : Int))).den ∧ (AV.v (Value.string p)).den = (AV.v (Value.string p)).den ∧ (AV.v (Value.string (mapB upB s))).den = (AV.v (Value.string (mapB upB s))).den ∧ (AV.sl (0 : Nat) n1 (0 : Nat) (3 : Nat) (pat p).length n2).den = (AV.sl (0 : Nat) n1 (0 : Nat) (3 : Nat) (pat p).length n2).den ∧ True) ∧ LeH [Blk.mk n1 (Cont.rows n2 [Col.bools o, Col.bools r, Col.ints IntKind.u8 c] (93 : TypeId)) true] [Blk.mk n1 (Cont.rows n2 [Col.bools o, Col.bools r, Col.ints IntKind.u8 c] (93 : TypeId)) true]) (R (AV.v (Value.bool false)))) (R (AV.v (Value.bool false))))) (br (decide (x.snd.snd.fst ≥ (0 : Int))) (br (decide ((↑x.snd.snd.snd : Int) < (↑(mapB upB s).size : Int))) (∃ (x' : Nat × Nat × Int × Nat), Greedy (pat p) (mapB upB s).data.toList x'.fst x'.snd.fst x'.snd.snd.fst x'.snd.snd.snd ∧ gmu (pat p).length s.size x'.fst x'.snd.fst x'.snd.snd.fst x'.snd.snd.snd < gmu (pat p).length s.size x.fst x.snd.fst x.snd.snd.fst x.snd.snd.snd ∧ ((AV.v (Value.int IntKind.i64 (IntKind.i64.wrap (x.snd.snd.fst + (1 : Int))))).den = (AV.v (Value.int IntKind.i64 (↑x'.fst : Int))).den ∧ (AV.v (Value.int IntKind.i64 (IntKind.i64.wrap ((↑x.snd.snd.snd : Int) + (1 : Int))))).den = (AV.v (Value.int IntKind.i64 (↑x'.snd.fst : Int))).den ∧ (AV.v (Value.int IntKind.i64 x.snd.snd.fst)).den = (AV.v (Value.int IntKind.i64 x'.snd.snd.fst)).den ∧ (AV.v (Value.int IntKind.i64 (IntKind.i64.wrap ((↑x.snd.snd.snd : Int) + (1 : Int))))).den = (AV.v (Value.int IntKind.i64 (↑x'.snd.snd.snd : Int))).den ∧ (AV.v (Value.string p)).den = (AV.v (Value.string p)).den ∧ (AV.v (Value.string (mapB upB s))).den = (AV.v (Value.string (mapB upB s))).den ∧ (AV.sl (0 : Nat) n1 (0 : Nat) (3 : Nat) (pat p).length n2).den = (AV.sl (0 : Nat) n1 (0 : Nat) (3 : Nat) (pat p).length n2).den ∧ True) ∧ LeH [Blk.mk n1 (Cont.rows n2 [Col.bools o, Col.bools r, Col.ints IntKind.u8 c] (93 : TypeId)) true] [Blk.mk n1 (Cont.rows n2 [Col.bools o, Col.bools r, Col.ints IntKind.u8 c] (93 : TypeId)) true]) (R (AV.v (Value.bool false)))) (R (AV.v (Value.bool false))))) (br (decide (x.snd.snd.fst ≥ (0 : Int))) (br (decide ((↑x.snd.snd.snd : Int) < (↑(mapB upB s).size : Int))) (∃ (x' : Nat × Nat × Int × Nat), Greedy (pat p) (mapB upB s).data.toList x'.fst x'.snd.fst x'.snd.snd.fst x'.snd.snd.snd ∧ gmu (pat p).length s.size x'.fst x'.snd.fst x'.snd.snd.fst x'.snd.snd.snd < gmu (pat p).length s.size x.fst x.snd.fst x.snd.snd.fst x.snd.snd.snd ∧ ((AV.v (Value.int IntKind.i64 (IntKind.i64.wrap (x.snd.snd.fst + (1 : Int))))).den = (AV.v (Value.int IntKind.i64 (↑x'.fst : Int))).den ∧ (AV.v (Value.int IntKind.i64 (IntKind.i64.wrap ((↑x.snd.snd.snd : Int) + (1 : Int))))).den = (AV.v (Value.int IntKind.i64 (↑x'.snd.fst : Int))).den ∧ (AV.v (Value.int IntKind.i64 x.snd.snd.fst)).den = (AV.v (Value.int IntKind.i64 x'.snd.snd.fst)).den ∧ (AV.v (Value.int IntKind.i64 (IntKind.i64.wrap ((↑x.snd.snd.snd : Int) + (1 : Int))))).den = (AV.v (Value.int IntKind.i64 (↑x'.snd.snd.snd : Int))).den ∧ (AV.v (Value.string p)).den = (AV.v (Value.string p)).den ∧ (AV.v (Value.string (mapB upB s))).den = (AV.v (Value.string (mapB upB s))).den ∧ (AV.sl (0 : Nat) n1 (0 : Nat) (3 : Nat) (pat p).length n2).den = (AV.sl (0 : Nat) n1 (0 : Nat) (3 : Nat) (pat p).length n2).den ∧ True) ∧ LeH [Blk.mk n1 (Cont.rows n2 [Col.bools o, Col.bools r, Col.ints IntKind.u8 c] (93 : TypeId)) true] [Blk.mk n1 (Cont.rows n2 [Col.bools o, Col.bools r, Col.ints IntKind.u8 c] (93 : TypeId)) true]) (R (AV.v (Value.bool false)))) (R (AV.v (Value.bool false)))))) (br (decide ((↑x.fst : Int) < (↑(pat p).length : Int))) (br (decide ((↑x.snd.fst : Int) < (↑(mapB upB s).size : Int))) (((0 : Int) ≤ (↑x.fst : Int) ∧ (↑x.fst : Int) < (↑(pat p).length : Int)) ∧ n1 = n1 ∧ (0 : Nat) + (↑x.fst : Int).toNat < n2 ∧ ((0 : Int) ≤ (↑x.snd.fst : Int) ∧ (↑x.snd.fst : Int) < (↑(mapB upB s).size : Int)) ∧ br (o ((0 : Nat) + (↑x.fst : Int).toNat) || !r ((0 : Nat) + (↑x.fst : Int).toNat) && c ((0 : Nat) + (↑x.fst : Int).toNat) == byteAt (mapB upB s) (↑x.snd.fst : Int).toNat) (∃ (x' : Nat × Nat × Int × Nat), Greedy (pat p) (mapB upB s).data.toList x'.fst x'.snd.fst x'.snd.snd.fst x'.snd.snd.snd ∧ gmu (pat p).length s.size x'.fst x'.snd.fst x'.snd.snd.fst x'.snd.snd.snd < gmu (pat p).length s.size x.fst x.snd.fst x.snd.snd.fst x.snd.snd.snd ∧ ((AV.v (Value.int IntKind.i64 (IntKind.i64.wrap ((↑x.fst : Int) + (1 : Int))))).den = (AV.v (Value.int IntKind.i64 (↑x'.fst : Int))).den ∧ (AV.v (Value.int IntKind.i64 (IntKind.i64.wrap ((↑x.snd.fst : Int) + (1 : Int))))).den = (AV.v (Value.int IntKind.i64 (↑x'.snd.fst : Int))).den ∧ (AV.v (Value.int IntKind.i64 x.snd.snd.fst)).den = (AV.v (Value.int IntKind.i64 x'.snd.snd.fst)).den ∧ (AV.v (Value.int IntKind.i64 (↑x.snd.snd.snd : Int))).den = (AV.v (Value.int IntKind.i64 (↑x'.snd.snd.snd : Int))).den ∧ (AV.v (Value.string p)).den = (AV.v (Value.string p)).den ∧ (AV.v (Value.string (mapB upB s))).den = (AV.v (Value.string (mapB upB s))).den ∧ (AV.sl (0 : Nat) n1 (0 : Nat) (3 : Nat) (pat p).length n2).den = (AV.sl (0 : Nat) n1 (0 : Nat) (3 : Nat) (pat p).length n2).den ∧ True) ∧ LeH [Blk.mk n1 (Cont.rows n2 [Col.bools o, Col.bools r, Col.ints IntKind.u8 c] (93 : TypeId)) true] [Blk.mk n1 (Cont.rows n2 [Col.bools o, Col.bools r, Col.ints IntKind.u8 c] (93 : TypeId)) true]) (br (decide (x.snd.snd.fst ≥ (0 : Int))) (br (decide ((↑x.snd.snd.snd : Int) < (↑(mapB upB s).size : Int))) (∃ (x' : Nat × Nat × Int × Nat), Greedy (pat p) (mapB upB s).data.toList x'.fst x'.snd.fst x'.snd.snd.fst x'.snd.snd.snd ∧ gmu (pat p).length s.size x'.fst x'.snd.fst x'.snd.snd.fst x'.snd.snd.snd < gmu (pat p).length s.size x.fst x.snd.fst x.snd.snd.fst x.snd.snd.snd ∧ ((AV.v (Value.int IntKind.i64 (IntKind.i64.wrap (x.snd.snd.fst + (1 : Int))))).den = (AV.v (Value.int IntKind.i64 (↑x'.fst : Int))).den ∧ (AV.v (Value.int IntKind.i64 (IntKind.i64.wrap ((↑x.snd.snd.snd : Int) + (1 : Int))))).den = (AV.v (Value.int IntKind.i64 (↑x'.snd.fst : Int))).den ∧ (AV.v (Value.int IntKind.i64 x.snd.snd.fst)).den = (AV.v (Value.int IntKind.i64 x'.snd.snd.fst)).den ∧ (AV.v (Value.int IntKind.i64 (IntKind.i64.wrap ((↑x.snd.snd.snd : Int) + (1 : Int))))).den = (AV.v (Value.int IntKind.i64 (↑x'.snd.snd.snd : Int))).den ∧ (AV.v (Value.string p)).den = (AV.v (Value.string p)).den ∧ (AV.v (Value.string (mapB upB s))).den = (AV.v (Value.string (mapB upB s))).den ∧ (AV.sl (0 : Nat) n1 (0 : Nat) (3 : Nat) (pat p).length n2).den = (AV.sl (0 : Nat) n1 (0 : Nat) (3 : Nat) (pat p).length n2).den ∧ True) ∧ LeH [Blk.mk n1 (Cont.rows n2 [Col.bools o, Col.bools r, Col.ints IntKind.u8 c] (93 : TypeId)) true] [Blk.mk n1 (Cont.rows n2 [Col.bools o, Col.bools r, Col.ints IntKind.u8 c] (93 : TypeId)) true]) (R (AV.v (Value.bool false)))) (R (AV.v (Value.bool false))))) (br (decide (x.snd.snd.fst ≥ (0 : Int))) (br (decide ((↑x.snd.snd.snd : Int) < (↑(mapB upB s).size : Int))) (∃ (x' : Nat × Nat × Int × Nat), Greedy (pat p) (mapB upB s).data.toList x'.fst x'.snd.fst x'.snd.snd.fst x'.snd.snd.snd ∧ gmu (pat p).length s.size x'.fst x'.snd.fst x'.snd.snd.fst x'.snd.snd.snd < gmu (pat p).length s.size x.fst x.snd.fst x.snd.snd.fst x.snd.snd.snd ∧ ((AV.v (Value.int IntKind.i64 (IntKind.i64.wrap (x.snd.snd.fst + (1 : Int))))).den = (AV.v (Value.int IntKind.i64 (↑x'.fst : Int))).den ∧ (AV.v (Value.int IntKind.i64 (IntKind.i64.wrap ((↑x.snd.snd.snd : Int) + (1 : Int))))).den = (AV.v (Value.int IntKind.i64 (↑x'.snd.fst : Int))).den ∧ (AV.v (Value.int IntKind.i64 x.snd.snd.fst)).den = (AV.v (Value.int IntKind.i64 x'.snd.snd.fst)).den ∧ (AV.v (Value.int IntKind.i64 (IntKind.i64.wrap ((↑x.snd.snd.snd : Int) + (1 : Int))))).den = (AV.v (Value.int IntKind.i64 (↑x'.snd.snd.snd : Int))).den ∧ (AV.v (Value.string p)).den = (AV.v (Value.string p)).den ∧ (AV.v (Value.string (mapB upB s))).den = (AV.v (Value.string (mapB upB s))).den ∧ (AV.sl (0 : Nat) n1 (0 : Nat) (3 : Nat) (pat p).length n2).den = (AV.sl (0 : Nat) n1 (0 : Nat) (3 : Nat) (pat p).length n2).den ∧ True) ∧ LeH [Blk.mk n1 (Cont.rows n2 [Col.bools o, Col.bools r, Col.ints IntKind.u8 c] (93 : TypeId)) true] [Blk.mk n1 (Cont.rows n2 [Col.bools o, Col.bools r, Col.ints IntKind.u8 c] (93 : TypeId)) true]) (R (AV.v (Value.bool false)))) (R (AV.v (Value.bool false))))) (br (decide (x.snd.snd.fst ≥ (0 : Int))) (br (decide ((↑x.snd.snd.snd : Int) < (↑(mapB upB s).size : Int))) (∃ (x' : Nat × Nat × Int × Nat), Greedy (pat p) (mapB upB s).data.toList x'.fst x'.snd.fst x'.snd.snd.fst x'.snd.snd.snd ∧ gmu (pat p).length s.size x'.fst x'.snd.fst x'.snd.snd.fst x'.snd.snd.snd < gmu (pat p).length s.size x.fst x.snd.fst x.snd.snd.fst x.snd.snd.snd ∧ ((AV.v (Value.int IntKind.i64 (IntKind.i64.wrap (x.snd.snd.fst + (1 : Int))))).den = (AV.v (Value.int IntKind.i64 (↑x'.fst : Int))).den ∧ (AV.v (Value.int IntKind.i64 (IntKind.i64.wrap ((↑x.snd.snd.snd : Int) + (1 : Int))))).den = (AV.v (Value.int IntKind.i64 (↑x'.snd.fst : Int))).den ∧ (AV.v (Value.int IntKind.i64 x.snd.snd.fst)).den = (AV.v (Value.int IntKind.i64 x'.snd.snd.fst)).den ∧ (AV.v (Value.int IntKind.i64 (IntKind.i64.wrap ((↑x.snd.snd.snd : Int) + (1 : Int))))).den = (AV.v (Value.int IntKind.i64 (↑x'.snd.snd.snd : Int))).den ∧ (AV.v (Value.string p)).den = (AV.v (Value.string p)).den ∧ (AV.v (Value.string (mapB upB s))).den = (AV.v (Value.string (mapB upB s))).den ∧ (AV.sl (0 : Nat) n1 (0 : Nat) (3 : Nat) (pat p).length n2).den = (AV.sl (0 : Nat) n1 (0 : Nat) (3 : Nat) (pat p).length n2).den ∧ True) ∧ LeH [Blk.mk n1 (Cont.rows n2 [Col.bools o, Col.bools r, Col.ints IntKind.u8 c] (93 : TypeId)) true] [Blk.mk n1 (Cont.rows n2 [Col.bools o, Col.bools r, Col.ints IntKind.u8 c] (93 : TypeId)) true]) (R (AV.v (Value.bool false)))) (R (AV.v (Value.bool false)))))) (R (AV.v (Value.bool true)))))) : LC Try.prog 74 [.v (.string p), .v (.string s)] [] (fun z_ _ => R z_) :=
  lc_of_exec (tbl := q1) tab_ok q1_ok mixed (gI p s) 2 _ Try.func74 rfl Try.ntmps74 (by decide) (by kernel_rfl) (Nat.le_of_ble_eq_true rfl) (@Eq.mpr (execN tab q1 (gI p s) 2 Try.f74.ntmps [] none 0 (body Try.f74) (argsT [.v (.string p), .v (.string s)] 0) [] (post Try.f74 tab (retK (fun z_ _ => R z_)))) _ (by kernel_rfl) h)


theorem like_lc (p s : ByteArray) (hp : p.size ≤ 1000000) (hs : s.size ≤ 1000000) : LC Try.prog 74 [.v (.string p), .v (.string s)] [] (fun z _ => z = .v (.bool (likeB p s))) :=
  like_vc p s (by
    simp only [true_and, and_true, br_iff, Bool.not_eq_true', Bool.not_eq_false', decide_eq_true_eq, decide_eq_false_iff_not, AV.den, Value.int.injEq, Value.bool.injEq, nbeqT, nbeqF, beq_iff_eq, beq_eq_false_iff_ne, bne_iff_ne, bne_eq_false_iff_eq, ne_eq, Int.toNat_natCast, Nat.zero_add, size_mapB]
    have hn : (mapB upB s).data.toList.length = s.size := by rw [size_data, size_mapB]
    have fin : ∀ b, mt (pat p) (mapB upB s).data.toList = b → AV.v (Value.bool b) = AV.v (Value.bool (likeB p s)) := fun b hb => by rw [← hb]; rfl
    refine ⟨hp, fun h0 => ?_, fun n1 n2 o r c h0 h1 hr => ⟨⟨(0, 0, -1, 0), Greedy.start _ _, ⟨rfl, rfl, rfl, rfl⟩, LeH.refl _⟩, ?_⟩⟩
    · have e : pat p = [] := List.eq_nil_of_length_eq_zero h0
      refine ⟨fun h => fin _ ?_, fun h => fin _ ?_⟩
      · rw [e]
        cases hs : (mapB upB s).data.toList with
        | nil => rw [hs] at hn; simp at hn; omega
        | cons a l => rfl
      · have : (mapB upB s).data.toList = [] := List.eq_nil_of_length_eq_zero (by omega)
        rw [e, this]; rfl
    rintro ⟨i, j, back, f⟩ g
    simp only at g ⊢
    have hi := g.hi
    have hj := g.hj
    rw [hn] at hj
    have hb : ∀ b : Nat, back = (b : Int) → b < i := fun b h => (g.hso b h).1
    have hneg := g.neg
    have hbi : back < i := by
      by_cases h : back < 0
      · omega
      · have := hb back.toNat (by omega); omega
    have hlen : (pat p).length ≤ 1000000 := by
      have := stepsF_len false (mapB upB p).data.toList
      rw [size_data, size_mapB] at this
      unfold pat
      simp only [Bool.false_eq_true, if_false] at this
      omega
    have hfb : 0 ≤ back → f ≤ j := fun h => by
      obtain ⟨h1, h2, h3, _⟩ := g.hso back.toNat (by omega)
      omega
    have hwb : IntKind.i64.wrap (back + 1) = back + 1 := w64 ⟨by
      by_cases h : back < 0
      · have := hneg h; omega
      · omega, by omega⟩
    have e1 : IntKind.i64.wrap ((i : Int) + 1) = ((i + 1 : Nat) : Int) := by rw [w64 (by omega)]; omega
    have e2 : IntKind.i64.wrap ((j : Int) + 1) = ((j + 1 : Nat) : Int) := by rw [w64 (by omega)]; omega
    simp only [e1, e2]
    have more : mt ((pat p).drop i) ((mapB upB s).data.toList.drop j) = false → 0 ≤ back → f < s.size → ∃ x' : Nat × Nat × Int × Nat, Greedy (pat p) (mapB upB s).data.toList x'.1 x'.2.1 x'.2.2.1 x'.2.2.2 ∧ gmu (pat p).length s.size x'.1 x'.2.1 x'.2.2.1 x'.2.2.2 < gmu (pat p).length s.size i j back f ∧ (back + 1 = (x'.1 : Int) ∧ ((f + 1 : Nat) : Int) = (x'.2.1 : Int) ∧ back = x'.2.2.1 ∧ ((f + 1 : Nat) : Int) = (x'.2.2.2 : Int)) := fun hno h0 hf => by
      obtain ⟨b, rfl⟩ : ∃ b : Nat, back = (b : Int) := ⟨back.toNat, by omega⟩
      exact ⟨(b + 1, f + 1, (b : Int), f + 1), g.more (by rw [hn]; exact hf) hno, gmu_more hf hi hj, by simp only; omega, rfl, rfl, rfl⟩
    have stuck : mt ((pat p).drop i) ((mapB upB s).data.toList.drop j) = false → (¬ 0 ≤ back ∨ ¬ f < s.size) → AV.v (Value.bool false) = AV.v (Value.bool (likeB p s)) := fun hno h => fin _ (g.stuck hno (by rw [hn]; omega))
    by_cases hL : i < (pat p).length
    · have hLi : (i : Int) < ((pat p).length : Int) := by omega
      have hLb : 0 ≤ (i : Int) ∧ (i : Int) < ((pat p).length : Int) := ⟨by omega, hLi⟩
      have hx : (pat p)[i]? = some (pat p)[i] := List.getElem?_eq_getElem hL
      have hst := hr.get i _ hx
      simp only [eq_true hLi, eq_true hLb.1, eq_true (show i < n2 by omega), not_true_eq_false, not_false_eq_true, forall_const, true_implies, false_implies, and_true, true_and, false_and, Bool.true_eq_false, Bool.false_eq_true]
      by_cases hrow : (pat p)[i] = .row
      · rw [hrow] at hst hx
        have hri : r i = true := hst.2
        have nx : ∃ x' : Nat × Nat × Int × Nat, Greedy (pat p) (mapB upB s).data.toList x'.1 x'.2.1 x'.2.2.1 x'.2.2.2 ∧ gmu (pat p).length s.size x'.1 x'.2.1 x'.2.2.1 x'.2.2.2 < gmu (pat p).length s.size i j back f ∧ (((i + 1 : Nat) : Int) = (x'.1 : Int) ∧ (j : Int) = (x'.2.1 : Int) ∧ (i : Int) = x'.2.2.1 ∧ (j : Int) = (x'.2.2.2 : Int)) :=
          ⟨(i + 1, j, (i : Int), j), g.meetRow hx, gmu_row hL hj hbi, rfl, rfl, rfl, rfl⟩
        obtain ⟨x', x1, x2, x3⟩ := nx
        simp only [hri, not_true_eq_false, not_false_eq_true, forall_const, true_implies, false_implies, and_true, true_and, false_and, Bool.true_eq_false, Bool.false_eq_true]
        exact ⟨fun _ => ⟨x', x1, x2, x3, LeH.refl _⟩, fun _ => ⟨x', x1, x2, x3, LeH.refl _⟩⟩
      · have hri : r i = false := by
          cases hc : (pat p)[i] with
          | row => exact absurd hc hrow
          | one => rw [hc] at hst; exact hst.2
          | lit d => rw [hc] at hst; exact hst.2.1
        simp only [hri, not_true_eq_false, not_false_eq_true, forall_const, true_implies, false_implies, and_true, true_and, false_and, Bool.true_eq_false, Bool.false_eq_true]
        by_cases hJ : j < s.size
        · have hJi : (j : Int) < (s.size : Int) := by omega
          have hJb : 0 ≤ (j : Int) ∧ (j : Int) < (s.size : Int) := ⟨by omega, hJi⟩
          have hc : (mapB upB s).data.toList[j]? = some (bAt (mapB upB s) j) := by
            rw [bAt, List.getElem?_eq_getElem (by rw [hn]; exact hJ)]; rfl
          have fv : (o i || !false && c i == byteAt (mapB upB s) j) = fitsS (pat p)[i] (bAt (mapB upB s) j) := by
            cases hc : (pat p)[i] with
            | row => exact absurd hc hrow
            | one => rw [hc] at hst; rw [hst.1]; rfl
            | lit d =>
              rw [hc] at hst
              rw [hst.1, hst.2.2, byteAt_eq]
              show (((d.toNat : Int)) == ((bAt (mapB upB s) j).toNat : Int)) = (d == bAt (mapB upB s) j)
              rw [Bool.eq_iff_iff, beq_iff_eq, beq_iff_eq]
              exact ⟨fun h => UInt8.toNat_inj.1 (by omega), fun h => by rw [h]⟩
          simp only [eq_true hJi, eq_true hJb.1, fv, not_true_eq_false, not_false_eq_true, forall_const, true_implies, false_implies, and_true, true_and, false_and, Bool.true_eq_false, Bool.false_eq_true]
          cases hf : fitsS (pat p)[i] (bAt (mapB upB s) j) with
          | true =>
            simp only [not_true_eq_false, not_false_eq_true, forall_const, true_implies, false_implies, and_true, true_and, false_and, Bool.true_eq_false, Bool.false_eq_true]
            exact ⟨(i + 1, j + 1, back, f), g.fit hx hc hrow hf, gmu_fit hL hJ, ⟨rfl, rfl, rfl, rfl⟩, LeH.refl _⟩
          | false =>
            simp only [not_true_eq_false, not_false_eq_true, forall_const, true_implies, false_implies, and_true, true_and, false_and, Bool.true_eq_false, Bool.false_eq_true]
            have hno := no_go (p := pat p) (s := (mapB upB s).data.toList) (i := i) (j := j) (fun x hx' => by
              rw [hx] at hx'; cases hx'
              refine ⟨hrow, fun c' hc' => ?_⟩
              rw [hc] at hc'; cases hc'; exact hf) hi (.inr hL)
            refine ⟨fun h0 => ⟨fun hf => ?_, fun hf => stuck hno (.inr (by omega))⟩, fun h0 => stuck hno (.inl (by omega))⟩
            obtain ⟨x', x1, x2, x3⟩ := more hno (by omega) (by omega)
            have ef : IntKind.i64.wrap ((f : Int) + 1) = ((f + 1 : Nat) : Int) := by
              rw [w64 (by have := hfb (by omega); omega)]; omega
            rw [hwb, ef]
            exact ⟨x', x1, x2, x3, LeH.refl _⟩
        · have hJi : ¬ (j : Int) < (s.size : Int) := by omega
          simp only [eq_false hJi, not_true_eq_false, not_false_eq_true, forall_const, true_implies, false_implies, and_true, true_and, false_and, Bool.true_eq_false, Bool.false_eq_true]
          have hno := no_go (p := pat p) (s := (mapB upB s).data.toList) (i := i) (j := j) (fun x hx' => by
            rw [hx] at hx'; cases hx'
            refine ⟨hrow, fun c' hc' => ?_⟩
            rw [List.getElem?_eq_none (by rw [hn]; omega)] at hc'; cases hc') hi (.inr hL)
          refine ⟨fun h0 => ⟨fun hf => ?_, fun hf => stuck hno (.inr (by omega))⟩, fun h0 => stuck hno (.inl (by omega))⟩
          obtain ⟨x', x1, x2, x3⟩ := more hno (by omega) (by omega)
          have ef : IntKind.i64.wrap ((f : Int) + 1) = ((f + 1 : Nat) : Int) := by
            rw [w64 (by have := hfb (by omega); omega)]; omega
          rw [hwb, ef]
          exact ⟨x', x1, x2, x3, LeH.refl _⟩
    · have hLi : ¬ (i : Int) < ((pat p).length : Int) := by omega
      simp only [eq_false hLi, not_true_eq_false, not_false_eq_true, forall_const, true_implies, false_implies, and_true, true_and, false_and, Bool.true_eq_false, Bool.false_eq_true]
      refine ⟨fun hJ => ?_, fun hJ => ?_⟩
      · have hno := no_go (p := pat p) (s := (mapB upB s).data.toList) (i := i) (j := j) (fun x hx' => by
          rw [List.getElem?_eq_none (by omega)] at hx'; cases hx') hi (.inl (by rw [hn]; omega))
        refine ⟨fun h0 => ⟨fun hf => ?_, fun hf => stuck hno (.inr (by omega))⟩, fun h0 => stuck hno (.inl (by omega))⟩
        obtain ⟨x', x1, x2, x3⟩ := more hno (by omega) (by omega)
        have ef : IntKind.i64.wrap ((f : Int) + 1) = ((f + 1 : Nat) : Int) := by
          rw [w64 (by have := hfb (by omega); omega)]; omega
        rw [hwb, ef]
        exact ⟨x', x1, x2, x3, LeH.refl _⟩
      · have e3 : i = (pat p).length := by omega
        have e4 : j = (mapB upB s).data.toList.length := by rw [hn]; omega
        subst e3; subst e4
        exact fin _ g.done)

def likeH : List AV → Option (Prop × AV)
  | [.v (.string p), .v (.string s)] => some (p.size ≤ 1000000 ∧ s.size ≤ 1000000, .v (.bool (likeB p s)))
  | _ => none

theorem like_ok : PrOk Try.prog 74 likeH := PrOk.of_lc (enters_of (c := body Try.f74) Try.func74 rfl (by kernel_rfl)) (by
  intro args p h hp
  unfold likeH at h
  split at h
  · cases h; exact like_lc _ _ hp.1 hp.2
  · cases h)
end Go.Proofs.Ytgafgejkijbmpaa

