/- Csv: strings.IndexRune over the signs. -/
import Derived.Test.YtdokphikobfakaaDoorD
namespace Go.Eng
open Go.Sp
/-- Whether a byte is a sign. -/
def isSign (b : UInt8) : Prop := b = 34 ∨ b = 13 ∨ b = 10

/-- The newest block of a text's runes, ahead of a place. -/
def strH (i : Nat) : HH → HH
  | [⟨n, .iters s _, o⟩] => [⟨n, .iters s i, o⟩]
  | b :: H => b :: strH i H
  | [] => []

/-- What is known at the heads of strings.IndexAny's loops. -/
def anyJ (s : ByteArray) : Nat → TT → HH → LI := fun b T H =>
  match b with
  | 2 => .inv Nat (fun i => (keepT [0, 1, 45] T, strH i H)) (fun i => i ≤ s.size ∧ ∀ q, q < i → ¬ isSign (bAt s q)) (fun i => s.size - i)
  | _ => .unroll 0
end Go.Eng
namespace Go.Proofs.YtdokphikobfakaaDoor
open Go Go.Eng Go.Sp
set_option linter.unusedVariables false
set_option linter.unusedSimpArgs false

theorem u8_back {E : ByteArray} {i : Nat} : (byteAt E i).toNat.toUInt8 = bAt E i := by
  rw [byteAt_eq]
  simp

theorem enc_last {r : Int} (hv : Utf8.valid r = true) (h : 128 ≤ r) : 2 ≤ (Utf8.encode r).size ∧ (Utf8.encode r).size ≤ 4 ∧ 128 ≤ (bAt (Utf8.encode r) ((Utf8.encode r).size - 1)).toNat := by
  obtain ⟨h1, h2, h3⟩ := encode_facts r hv h
  refine ⟨h1, h2, ?_⟩
  have hlt : (Utf8.encode r).size - 1 < (Utf8.encode r).size := by omega
  have h3 := h3 hlt
  have : bAt (Utf8.encode r) ((Utf8.encode r).size - 1) = (Utf8.encode r)[(Utf8.encode r).size - 1]'hlt := by
    rw [bAt, List.getElem?_eq_getElem (by rw [size_data]; exact hlt)]
    rfl
  rw [this]; exact h3

theorem ixr_body {E : ByteArray} (h2 : 2 ≤ E.size) (h4 : E.size ≤ 4) (hl : 128 ≤ (bAt E (E.size - 1)).toNat) {P J1 J2 : Prop} (hP : P) :
    br (decide (IntKind.i64.wrap ((E.size : Int) - 1) < 3)) ((0 ≤ IntKind.i64.wrap ((E.size : Int) - 1) ∧ IntKind.i64.wrap ((E.size : Int) - 1) < 3) ∧ (0 ≤ IntKind.i64.wrap ((E.size : Int) - 1) ∧ IntKind.i64.wrap ((E.size : Int) - 1) < (E.size : Int)) ∧
      br (byteAt (ByteArray.mk #[(34 : UInt8), (13 : UInt8), (10 : UInt8)]) (IntKind.i64.wrap ((E.size : Int) - 1)).toNat != byteAt E (IntKind.i64.wrap ((E.size : Int) - 1)).toNat)
        ((0 ≤ IntKind.i64.wrap (IntKind.i64.wrap ((E.size : Int) - 1) + 1) ∧ IntKind.i64.wrap (IntKind.i64.wrap ((E.size : Int) - 1) + 1) ≤ 3) ∧ 3 ≤ 3 ∧ (0 ≤ IntKind.i64.wrap ((E.size : Int) - 1) ∧ IntKind.i64.wrap ((E.size : Int) - 1) < (E.size : Int)) ∧
          br (decide (Lib.indexByte (subS (ByteArray.mk #[(34 : UInt8), (13 : UInt8), (10 : UInt8)]) (IntKind.i64.wrap (IntKind.i64.wrap ((E.size : Int) - 1) + 1)).toNat 3).data.toList (byteAt E (IntKind.i64.wrap ((E.size : Int) - 1)).toNat).toNat.toUInt8 < 0)) P J1) J2) P := by
  have e1 : IntKind.i64.wrap ((E.size : Int) - 1) = ((E.size - 1 : Nat) : Int) := by rw [w64 (by omega)]; omega
  have e2 : IntKind.i64.wrap (((E.size - 1 : Nat) : Int) + 1) = (E.size : Int) := by rw [w64 (by omega)]; omega
  rw [e1, e2, Int.toNat_natCast, Int.toNat_natCast, u8_back, byteAt_eq E]
  generalize bAt E (E.size - 1) = c at *
  generalize E.size = n at *
  have hn : n = 2 ∨ n = 3 ∨ n = 4 := by omega
  have c1 : c ≠ 10 := fun e => by rw [e] at hl; exact absurd hl (by decide)
  have c2 : c ≠ 13 := fun e => by rw [e] at hl; exact absurd hl (by decide)
  rcases hn with rfl | rfl | rfl
  · refine br_intro (fun _ => ⟨⟨by omega, by omega⟩, ⟨by omega, by omega⟩, br_intro (fun _ => ⟨⟨by omega, by omega⟩, by omega, ⟨by omega, by omega⟩, br_intro (fun _ => hP) (fun h => ?_)⟩) (fun h => ?_)⟩) (fun _ => hP)
    · rw [show (subS (ByteArray.mk #[(34 : UInt8), (13 : UInt8), (10 : UInt8)]) 2 3).data.toList = [10] from rfl] at h
      simp [Lib.indexByte, Ne.symm c1] at h
    · have : byteAt (ByteArray.mk #[(34 : UInt8), (13 : UInt8), (10 : UInt8)]) (2 - 1) = 13 := rfl
      rw [this] at h
      simp only [bne_eq_false_iff_eq] at h
      omega
  · refine br_intro (fun _ => ⟨⟨by omega, by omega⟩, ⟨by omega, by omega⟩, br_intro (fun _ => ⟨⟨by omega, by omega⟩, by omega, ⟨by omega, by omega⟩, br_intro (fun _ => hP) (fun h => ?_)⟩) (fun h => ?_)⟩) (fun _ => hP)
    · rw [show (subS (ByteArray.mk #[(34 : UInt8), (13 : UInt8), (10 : UInt8)]) 3 3).data.toList = [] from rfl] at h
      simp [Lib.indexByte] at h
    · have : byteAt (ByteArray.mk #[(34 : UInt8), (13 : UInt8), (10 : UInt8)]) (3 - 1) = 10 := rfl
      rw [this] at h
      simp only [bne_eq_false_iff_eq] at h
      omega
  · exact br_intro (fun h => absurd (of_decide_eq_true h) (by omega)) (fun _ => hP)

/-- Where a rune stands among the signs. -/
def ixrV (r : Int) : Int := if 0 ≤ r ∧ r < 128 then Lib.indexByte [34, 13, 10] r.toNat.toUInt8 else -1

theorem ixr_lc (r : Int) : LC Tryd.prog 48 [.v (.string (ByteArray.mk #[34, 13, 10])), .v (.int .i32 r)] [] (fun z _ => z = .v (.int .i64 (ixrV r))) :=
  ixr_vc r (by
    have no : ¬ (0 ≤ r ∧ r < 128) → AV.v (Value.int .i64 (-1)) = .v (.int .i64 (ixrV r)) := fun h => by rw [ixrV, if_neg h]
    have enc : 128 ≤ r → (r < 55296 ∨ 57343 < r) → r ≤ 1114111 → Utf8.valid r = true := fun h1 h2 h3 => by
      simp [Utf8.valid]; omega
    simp only [true_and]
    have lo : 0 ≤ r → r < 128 → AV.v (Value.int .i64 (Lib.indexByte (ByteArray.mk #[(34 : UInt8), (13 : UInt8), (10 : UInt8)]).data.toList (IntKind.u8.wrap r).toNat.toUInt8)) = .v (.int .i64 (ixrV r)) := fun h0 h1 => by
      rw [ixrV, if_pos ⟨h0, h1⟩]
      have : IntKind.u8.wrap r = r := by
        simp [IntKind.wrap, IntKind.bits, IntKind.signed]; omega
      rw [this]
    have big : ∀ {J1 J2 : Prop}, 128 ≤ r → (r < 55296 ∨ 57343 < r) → r ≤ 1114111 → _ := fun {J1 J2} h1 h2 h3 =>
      ixr_body (J1 := J1) (J2 := J2) (enc_last (enc h1 h2 h3) h1).1 (enc_last (enc h1 h2 h3) h1).2.1 (enc_last (enc h1 h2 h3) h1).2.2 (no (by omega))
    refine br_intro (fun h0 => ?_) (fun h0 => ?_)
    · have h0 := of_decide_eq_true h0
      refine br_intro (fun h1 => lo h0 (of_decide_eq_true h1)) (fun h1 => ?_)
      have h1 := of_decide_eq_false h1
      refine br_intro (fun _ _ => no (by omega)) (fun _ => br_intro (fun _ => br_intro (fun h2 => big (by omega) (.inl (of_decide_eq_true h2)) (by have := of_decide_eq_true h2; omega)) (fun h2 => br_intro (fun h3 => br_intro (fun h4 => big (by omega) (.inr (of_decide_eq_true h3)) (of_decide_eq_true h4)) (fun _ => no (by omega))) (fun _ => no (by omega)))) (fun h2 => absurd (of_decide_eq_false h2) (by omega)))
    · have h0 := of_decide_eq_false h0
      exact br_intro (fun _ _ => no (by omega)) (fun _ => br_intro (fun h => absurd (of_decide_eq_true h) h0) (fun _ => br_intro (fun h => absurd (of_decide_eq_true h) (by omega)) (fun _ => no (by omega)))))

/-- strings.IndexRune over the signs. -/
def ixrF : List AV → Option AV
  | [.v (.string s), .v (.int .i32 r)] => (match eqS s (ByteArray.mk #[34, 13, 10]) with | true => some (.v (.int .i64 (ixrV r))) | false => none)
  | _ => none

theorem ixr_ok : POk Tryd.prog 48 ixrF := POk.of_lc (enters_of (c := body Tryd.f48) Tryd.func48 rfl (by kernel_rfl)) fun args v h => by
  unfold ixrF at h
  split at h
  · rename_i s r
    split at h
    · rename_i hs
      have hs := eqS_iff.1 hs
      subst hs
      cases h
      exact ixr_lc r
    · cases h
  · cases h

def te : Tbl := (48, .pure ixrF) :: (49, .pure shortF) :: []

theorem te_ok : TblOk Tryd.prog te := ⟨ixr_ok, short_ok, trivial⟩


set_option maxRecDepth 100000 in
theorem ixa_vc (s : ByteArray) {R : AV → Prop} (h : (br (decide ((8 : Int) < (↑s.size : Int))) False (∀ (n1 : Nat), (∃ (x : Nat), (x ≤ s.size ∧ ∀ (q : Nat), q < x → ¬isSign (bAt s q)) ∧ ((AV.v (Value.string s)).den = (AV.v (Value.string s)).den ∧ (AV.v (Value.string (ByteArray.mk #[(34 : UInt8), (13 : UInt8), (10 : UInt8)]))).den = (AV.v (Value.string (ByteArray.mk #[(34 : UInt8), (13 : UInt8), (10 : UInt8)]))).den ∧ (AV.ptr (0 : Nat) n1 (0 : Nat)).den = (AV.ptr (0 : Nat) n1 (0 : Nat)).den ∧ True) ∧ LeH [Blk.mk n1 (Cont.iters s (0 : Nat)) true] [Blk.mk n1 (Cont.iters s x) true]) ∧ ∀ (n2 : Nat), (n2 ≤ s.size ∧ ∀ (q : Nat), q < n2 → ¬isSign (bAt s q)) → n1 = n1 ∧ br (n2.blt s.size) (br (decide (ixrV (↑(Utf8.decode s n2).fst : Int) ≥ (0 : Int))) (R (AV.v (Value.int IntKind.i64 (↑n2 : Int)))) (∃ (x' : Nat), (x' ≤ s.size ∧ ∀ (q : Nat), q < x' → ¬isSign (bAt s q)) ∧ s.size - x' < s.size - n2 ∧ ((AV.v (Value.string s)).den = (AV.v (Value.string s)).den ∧ (AV.v (Value.string (ByteArray.mk #[(34 : UInt8), (13 : UInt8), (10 : UInt8)]))).den = (AV.v (Value.string (ByteArray.mk #[(34 : UInt8), (13 : UInt8), (10 : UInt8)]))).den ∧ (AV.ptr (0 : Nat) n1 (0 : Nat)).den = (AV.ptr (0 : Nat) n1 (0 : Nat)).den ∧ True) ∧ LeH [Blk.mk n1 (Cont.iters s (n2 + (Utf8.decode s n2).snd)) true] [Blk.mk n1 (Cont.iters s x') true])) (R (AV.v (Value.int IntKind.i64 (-1 : Int))))))) : LC Tryd.prog 38 [.v (.string s), .v (.string (ByteArray.mk #[34, 13, 10]))] [] (fun z_ _ => R z_) :=
  lc_of_exec (tbl := te) tab_ok te_ok mixed ((anyJ s)) 2 _ Tryd.func38 rfl Tryd.ntmps38 (by decide) (by kernel_rfl) (Nat.le_of_ble_eq_true rfl) (@Eq.mpr (execN tab te ((anyJ s)) 2 Tryd.f38.ntmps [] none 0 (body Tryd.f38) (argsT [.v (.string s), .v (.string (ByteArray.mk #[34, 13, 10]))] 0) [] (post Tryd.f38 tab (retK (fun z_ _ => R z_)))) _ (by kernel_rfl) h)

end Go.Proofs.YtdokphikobfakaaDoor

