/- Strs: the law StrsTwice. -/
import Derived.Test.YtgafgejkijbmpaaF
namespace Go.Sp
open Go.Eng

/-- What is trimmed of a text's first bytes. -/
def trS (s : ByteArray) (i : Nat) : ByteArray := mkS ((s.data.toList.take i).foldl tstep ([], false)).1

theorem tr_take {s : ByteArray} {i : Nat} (h : i < s.size) (st : List UInt8 × Bool) : (s.data.toList.take (i + 1)).foldl tstep st = tstep ((s.data.toList.take i).foldl tstep st) (bAt s i) := by
  rw [List.take_add_one, List.getElem?_eq_getElem (by rw [size_data]; exact h), Option.toList_some, List.foldl_append, bAt, List.getElem?_eq_getElem (by rw [size_data]; exact h)]
  rfl

theorem tr_flag {s : ByteArray} : ∀ {i : Nat}, i ≤ s.size → (((s.data.toList.take i).foldl tstep ([], false)).2 = true ↔ 0 < i ∧ bAt s (i - 1) = 32)
  | 0, _ => by simp
  | i + 1, h => by
    rw [tr_take (by omega), show i + 1 - 1 = i by omega]
    unfold tstep
    split
    · rename_i h; simp [h]
    · rename_i h; simp [h]

theorem sub_one {s : ByteArray} {i : Nat} (h : i < s.size) : subS s i (i + 1) = mkS [bAt s i] := by
  rw [subS, show i + 1 - i = 1 by omega, List.drop_eq_getElem_cons (by rw [size_data]; exact h), bAt, List.getElem?_eq_getElem (by rw [size_data]; exact h)]
  rfl

theorem byte_32 {s : ByteArray} {i : Nat} : byteAt s i = 32 ↔ bAt s i = 32 := by
  rw [byteAt_eq]
  constructor
  · intro h
    have : (bAt s i).toNat = (32 : UInt8).toNat := by show _ = 32; omega
    exact UInt8.toNat_inj.1 this
  · intro h; rw [h]; rfl

theorem tr_size (s : ByteArray) (i : Nat) : (trS s i).size ≤ i := by
  have := trim_len (s.data.toList.take i)
  rw [trS, size_mkS]
  rw [trimL, List.length_take] at this
  omega

theorem tr_a {s : ByteArray} {i : Nat} (h : i < s.size) (hc : bAt s i = 32) : trS s (i + 1) = trS s i := by
  rw [trS, tr_take h, tstep, if_pos hc]; rfl

theorem tr_b {s : ByteArray} {i : Nat} (h : i < s.size) (hc : bAt s i ≠ 32) (hb : (0 < i ∧ bAt s (i - 1) = 32) ∧ (trS s i).size ≠ 0) : catS (catS (trS s i) (ByteArray.mk #[32])) (subS s i (i + 1)) = trS s (i + 1) := by
  have hf := (tr_flag (s := s) (i := i) (by omega)).2 hb.1
  have he : ((s.data.toList.take i).foldl tstep ([], false)).1.isEmpty = false := isEmpty_ne (fun e => hb.2 (by rw [trS, e]; rfl))
  rw [trS, trS, tr_take h, tstep, if_neg hc, hf, he, sub_one h, catS, catS, data_mkS, data_mkS, data_mkS]
  rfl

theorem tr_c {s : ByteArray} {i : Nat} (h : i < s.size) (hc : bAt s i ≠ 32) (hb : ¬ ((0 < i ∧ bAt s (i - 1) = 32) ∧ (trS s i).size ≠ 0)) : catS (trS s i) (subS s i (i + 1)) = trS s (i + 1) := by
  have hf := tr_flag (s := s) (i := i) (by omega)
  have he : ((((s.data.toList.take i).foldl tstep ([], false)).2 && !((s.data.toList.take i).foldl tstep ([], false)).1.isEmpty) = true) ↔ False := by
    rw [Bool.and_eq_true, hf]
    refine ⟨fun h => hb ⟨h.1, fun e => ?_⟩, False.elim⟩
    have h2 := h.2
    rw [trS, size_mkS] at e
    rw [List.eq_nil_of_length_eq_zero e] at h2
    simp at h2
  rw [trS, trS, tr_take h, tstep, if_neg hc, sub_one h, catS, data_mkS, data_mkS]
  simp only [he, if_false]

theorem tr_all (s : ByteArray) : trS s s.size = mkS (trimL s.data.toList) := by
  rw [trS, trimL, List.take_of_length_le (by rw [size_data]; exact Nat.le_refl _)]

theorem trim_trim (l : List UInt8) : trimL (trimL l) = trimL l := by
  have main : ∀ (l : List UInt8) (st : List UInt8 × Bool), st.1.foldl tstep ([], false) = (st.1, false) → (l.foldl tstep st).1.foldl tstep ([], false) = ((l.foldl tstep st).1, false) := by
    intro l
    induction l with
    | nil => intro st h; exact h
    | cons c l ih =>
      intro st h
      rw [List.foldl_cons]
      refine ih _ ?_
      obtain ⟨o, pb⟩ := st
      simp only at h
      rw [show tstep (o, pb) c = if c = 32 then (o, true) else ((if pb && !o.isEmpty then o ++ [32] else o) ++ [c], false) from rfl]
      split
      · exact h
      · rename_i hc
        simp only
        split
        · rename_i hp
          simp only [Bool.and_eq_true, Bool.not_eq_true'] at hp
          rw [List.foldl_append, List.foldl_append, h]
          simp [tstep, hc, hp.2]
        · rw [List.foldl_append, h]
          simp [tstep, hc]
  have := main l ([], false) rfl
  rw [trimL]
  show ((trimL l).foldl tstep ([], false)).1 = _
  rw [show (trimL l).foldl tstep ([], false) = (trimL l, false) from this]

theorem byte_all {p : UInt8 → Prop} (h : ∀ k : Fin 256, p (UInt8.ofNat k.1)) (b : UInt8) : p b := by
  have := h ⟨b.toNat, UInt8.toNat_lt b⟩
  simpa using this

theorem low_low (b : UInt8) : lowB (lowB b) = lowB b := byte_all (p := fun b => lowB (lowB b) = lowB b) (by decide +kernel) b
theorem low_up (b : UInt8) : lowB (upB b) = lowB b := byte_all (p := fun b => lowB (upB b) = lowB b) (by decide +kernel) b

end Go.Sp
namespace Go.Proofs.Ytgafgejkijbmpaa
open Go Go.Eng Go.Sp
set_option linter.unusedVariables false
set_option linter.unusedSimpArgs false


set_option maxRecDepth 100000 in
theorem rtrim_vc (s : ByteArray) {R : AV → Prop} (h : (br (decide ((↑s.size : Int) > (255 : Int))) (R (AV.tup [AV.v (Value.string (ByteArray.mk #[])), AV.v (Value.int IntKind.i64 (2 : Int))])) ((∃ (x : Nat), x ≤ s.size ∧ ((AV.v (Value.int IntKind.i64 (0 : Int))).den = (AV.v (Value.int IntKind.i64 (↑x : Int))).den ∧ (AV.v (Value.string (ByteArray.mk #[]))).den = (AV.v (Value.string (trS s x))).den ∧ (AV.v (Value.string s)).den = (AV.v (Value.string s)).den ∧ True) ∧ LeH [] []) ∧ ∀ (n1 : Nat), n1 ≤ s.size → br (decide ((↑n1 : Int) < (↑s.size : Int))) (((0 : Int) ≤ (↑n1 : Int) ∧ (↑n1 : Int) < (↑s.size : Int)) ∧ br (byteAt s (↑n1 : Int).toNat != (32 : Int)) (br (decide ((↑n1 : Int) > (0 : Int))) (((0 : Int) ≤ IntKind.i64.wrap ((↑n1 : Int) - (1 : Int)) ∧ IntKind.i64.wrap ((↑n1 : Int) - (1 : Int)) < (↑s.size : Int)) ∧ br (byteAt s (IntKind.i64.wrap ((↑n1 : Int) - (1 : Int))).toNat == (32 : Int)) (br (!eqS (trS s n1) (ByteArray.mk #[])) ((trS s n1).size + (1 : Nat) ≤ (9223372036854775807 : Nat) ∧ ((0 : Int) ≤ IntKind.i64.wrap ((↑n1 : Int) + (1 : Int)) ∧ IntKind.i64.wrap ((↑n1 : Int) + (1 : Int)) ≤ (↑s.size : Int)) ∧ ((0 : Int) ≤ (↑n1 : Int) ∧ (↑n1 : Int) ≤ IntKind.i64.wrap ((↑n1 : Int) + (1 : Int))) ∧ (catS (trS s n1) (ByteArray.mk #[(32 : UInt8)])).size + (subS s (↑n1 : Int).toNat (IntKind.i64.wrap ((↑n1 : Int) + (1 : Int))).toNat).size ≤ (9223372036854775807 : Nat) ∧ ∃ (x' : Nat), x' ≤ s.size ∧ s.size - x' < s.size - n1 ∧ ((AV.v (Value.int IntKind.i64 (IntKind.i64.wrap ((↑n1 : Int) + (1 : Int))))).den = (AV.v (Value.int IntKind.i64 (↑x' : Int))).den ∧ (AV.v (Value.string (catS (catS (trS s n1) (ByteArray.mk #[(32 : UInt8)])) (subS s (↑n1 : Int).toNat (IntKind.i64.wrap ((↑n1 : Int) + (1 : Int))).toNat)))).den = (AV.v (Value.string (trS s x'))).den ∧ (AV.v (Value.string s)).den = (AV.v (Value.string s)).den ∧ True) ∧ LeH [] []) (((0 : Int) ≤ IntKind.i64.wrap ((↑n1 : Int) + (1 : Int)) ∧ IntKind.i64.wrap ((↑n1 : Int) + (1 : Int)) ≤ (↑s.size : Int)) ∧ ((0 : Int) ≤ (↑n1 : Int) ∧ (↑n1 : Int) ≤ IntKind.i64.wrap ((↑n1 : Int) + (1 : Int))) ∧ (trS s n1).size + (subS s (↑n1 : Int).toNat (IntKind.i64.wrap ((↑n1 : Int) + (1 : Int))).toNat).size ≤ (9223372036854775807 : Nat) ∧ ∃ (x' : Nat), x' ≤ s.size ∧ s.size - x' < s.size - n1 ∧ ((AV.v (Value.int IntKind.i64 (IntKind.i64.wrap ((↑n1 : Int) + (1 : Int))))).den = (AV.v (Value.int IntKind.i64 (↑x' : Int))).den ∧ (AV.v (Value.string (catS (trS s n1) (subS s (↑n1 : Int).toNat (IntKind.i64.wrap ((↑n1 : Int) + (1 : Int))).toNat)))).den = (AV.v (Value.string (trS s x'))).den ∧ (AV.v (Value.string s)).den = (AV.v (Value.string s)).den ∧ True) ∧ LeH [] [])) (((0 : Int) ≤ IntKind.i64.wrap ((↑n1 : Int) + (1 : Int)) ∧ IntKind.i64.wrap ((↑n1 : Int) + (1 : Int)) ≤ (↑s.size : Int)) ∧ ((0 : Int) ≤ (↑n1 : Int) ∧ (↑n1 : Int) ≤ IntKind.i64.wrap ((↑n1 : Int) + (1 : Int))) ∧ (trS s n1).size + (subS s (↑n1 : Int).toNat (IntKind.i64.wrap ((↑n1 : Int) + (1 : Int))).toNat).size ≤ (9223372036854775807 : Nat) ∧ ∃ (x' : Nat), x' ≤ s.size ∧ s.size - x' < s.size - n1 ∧ ((AV.v (Value.int IntKind.i64 (IntKind.i64.wrap ((↑n1 : Int) + (1 : Int))))).den = (AV.v (Value.int IntKind.i64 (↑x' : Int))).den ∧ (AV.v (Value.string (catS (trS s n1) (subS s (↑n1 : Int).toNat (IntKind.i64.wrap ((↑n1 : Int) + (1 : Int))).toNat)))).den = (AV.v (Value.string (trS s x'))).den ∧ (AV.v (Value.string s)).den = (AV.v (Value.string s)).den ∧ True) ∧ LeH [] [])) (((0 : Int) ≤ IntKind.i64.wrap ((↑n1 : Int) + (1 : Int)) ∧ IntKind.i64.wrap ((↑n1 : Int) + (1 : Int)) ≤ (↑s.size : Int)) ∧ ((0 : Int) ≤ (↑n1 : Int) ∧ (↑n1 : Int) ≤ IntKind.i64.wrap ((↑n1 : Int) + (1 : Int))) ∧ (trS s n1).size + (subS s (↑n1 : Int).toNat (IntKind.i64.wrap ((↑n1 : Int) + (1 : Int))).toNat).size ≤ (9223372036854775807 : Nat) ∧ ∃ (x' : Nat), x' ≤ s.size ∧ s.size - x' < s.size - n1 ∧ ((AV.v (Value.int IntKind.i64 (IntKind.i64.wrap ((↑n1 : Int) + (1 : Int))))).den = (AV.v (Value.int IntKind.i64 (↑x' : Int))).den ∧ (AV.v (Value.string (catS (trS s n1) (subS s (↑n1 : Int).toNat (IntKind.i64.wrap ((↑n1 : Int) + (1 : Int))).toNat)))).den = (AV.v (Value.string (trS s x'))).den ∧ (AV.v (Value.string s)).den = (AV.v (Value.string s)).den ∧ True) ∧ LeH [] [])) (∃ (x' : Nat), x' ≤ s.size ∧ s.size - x' < s.size - n1 ∧ ((AV.v (Value.int IntKind.i64 (IntKind.i64.wrap ((↑n1 : Int) + (1 : Int))))).den = (AV.v (Value.int IntKind.i64 (↑x' : Int))).den ∧ (AV.v (Value.string (trS s n1))).den = (AV.v (Value.string (trS s x'))).den ∧ (AV.v (Value.string s)).den = (AV.v (Value.string s)).den ∧ True) ∧ LeH [] [])) (R (AV.tup [AV.v (Value.string (trS s n1)), AV.v (Value.int IntKind.i64 (0 : Int))]))))) : LC Try.prog 31 [.v (.string s)] [] (fun z_ _ => R z_) :=
  lc_of_exec (tbl := e5) tab_ok e5_ok mixed (fun _ T H => .inv Nat (fun i => ((5, .v (.int .i64 (i : Int))) :: (4, .v (.string (trS s i))) :: keepT [0] T, H)) (fun i => i ≤ s.size) (fun i => s.size - i)) 2 _ Try.func31 rfl Try.ntmps31 (by decide) (by kernel_rfl) (Nat.le_of_ble_eq_true rfl) (@Eq.mpr (execN tab e5 (fun _ T H => .inv Nat (fun i => ((5, .v (.int .i64 (i : Int))) :: (4, .v (.string (trS s i))) :: keepT [0] T, H)) (fun i => i ≤ s.size) (fun i => s.size - i)) 2 Try.f31.ntmps [] none 0 (body Try.f31) (argsT [.v (.string s)] 0) [] (post Try.f31 tab (retK (fun z_ _ => R z_)))) _ (by kernel_rfl) h)

set_option maxRecDepth 100000 in
theorem rtrim_lc (s : ByteArray) : LC Try.prog 31 [.v (.string s)] [] (fun z_ _ => z_ = .tup [.v (.string (sOf (trimO s))), .v (.int .i64 (cOf (trimO s)))]) :=
  rtrim_vc s (by
    simp only [true_and, and_true, br_iff, Bool.not_eq_true', Bool.not_eq_false', decide_eq_true_eq, decide_eq_false_iff_not, ge_iff_le, gt_iff_lt, beq_iff_eq, beq_eq_false_iff_ne, AV.den, Value.int.injEq, Nat.zero_add, Int.toNat_natCast, eqS_nil, eqS_nil_f]
    refine ⟨fun h => by rw [show trimO s = none from if_neg (by omega)]; rfl, fun h => ⟨⟨0, by omega, ⟨rfl, rfl⟩, LeH.refl _⟩, fun i hi => ⟨fun h1 => ?_, fun h1 => ?_⟩⟩⟩
    · have e1 : 0 < i → IntKind.i64.wrap ((i : Int) - 1) = ((i - 1 : Nat) : Int) := fun h0 => by rw [w64 (by omega)]; omega
      have e2 : IntKind.i64.wrap ((i : Int) + 1) = ((i + 1 : Nat) : Int) := by rw [w64 (by omega)]; omega
      have hz := tr_size s i
      have hs := size_subS s i (i + 1)
      simp only [e2, Int.toNat_natCast, bne_iff_ne, bne_eq_false_iff_eq, byte_32, ne_eq]
      have nx : ∀ x : ByteArray, x = trS s (i + 1) → ∃ x', x' ≤ s.size ∧ s.size - x' < s.size - i ∧ (((i + 1 : Nat) : Int) = (x' : Int) ∧ Value.string x = Value.string (trS s x')) ∧ LeH [] [] := fun x hx => ⟨i + 1, by omega, by omega, ⟨rfl, by rw [hx]⟩, LeH.refl _⟩
      refine ⟨by omega, fun hc => ⟨fun h0 => ?_, fun h0 => ⟨by omega, by omega, by omega, nx _ (tr_c (by omega) hc (by omega))⟩⟩, fun hc => nx _ (tr_a (by omega) hc).symm⟩
      simp only [e1 (by omega), Int.toNat_natCast, byte_32]
      refine ⟨by omega, fun hp => ⟨fun hn => ⟨by omega, by omega, by omega, ?_, nx _ (tr_b (by omega) hc ⟨⟨by omega, hp⟩, hn⟩)⟩, fun hn => ⟨by omega, by omega, by omega, nx _ (tr_c (by omega) hc (fun h => h.2 hn))⟩⟩, fun hp => ⟨by omega, by omega, by omega, nx _ (tr_c (by omega) hc (fun h => hp h.1.2))⟩⟩
      rw [size_catS]
      show (trS s i).size + 1 + _ ≤ _
      omega
    · obtain rfl : i = s.size := by omega
      rw [tr_all, show trimO s = some _ from if_pos (by omega)]; rfl)

def rtrimH : List AV → Option AV
  | [.v (.string s)] => some (.tup [.v (.string (sOf (trimO s))), .v (.int .i64 (cOf (trimO s)))])
  | _ => none

theorem rtrim_ok : POk Try.prog 31 rtrimH := POk.of_lc (enters_of (c := body Try.f31) Try.func31 rfl (by kernel_rfl)) (by
  intro args v h
  unfold rtrimH at h
  split at h
  · cases h; exact rtrim_lc _
  · cases h)


def h1 : Tbl := (14, .gen (glH livesH)) :: (27, .gen (glH trimH)) :: (28, .pure lowerH) :: (29, .pure foldH) :: (30, .pure repeatH) :: []

theorem h1_ok : TblOk Try.prog h1 := ⟨lives_ok, trim_ok, lower_ok, fold_ok, repeat_ok, trivial⟩


set_option maxRecDepth 100000 in
theorem twice_vc (m : Int) (s : ByteArray) (n : Int) {R : AV → Prop} (h : (br (decide ((↑s.size : Int) > (255 : Int))) (True ∧ R (AV.v (Value.bool true))) (True ∧ True ∧ br (!eqS (sOf (trimO s)) (sOf (trimO (sOf (trimO s))))) (R (AV.v (Value.bool false))) (br (cOf (trimO s) != cOf (trimO (sOf (trimO s)))) (R (AV.v (Value.bool false))) (br (!eqS (sOf (lowO s)) (sOf (lowO (mapB upB s)))) (R (AV.v (Value.bool false))) (br (cOf (lowO s) != cOf (lowO (mapB upB s))) (R (AV.v (Value.bool false))) (br (!eqS (sOf (lowO (sOf (lowO s)))) (sOf (lowO s))) (R (AV.v (Value.bool false))) (br (cOf (lowO (sOf (lowO s))) != (0 : Int)) (R (AV.v (Value.bool false))) (br (decide (n < (0 : Int))) (True ∧ R (AV.v (Value.bool true))) (br (decide (n > (300 : Int))) (True ∧ R (AV.v (Value.bool true))) (br (decide (IntKind.i64.wrap ((↑s.size : Int) * n) > (255 : Int))) (br (eqS (sOf (repO s n)) (ByteArray.mk #[])) (br (cOf (repO s n) == (2 : Int)) (True ∧ R (AV.v (Value.bool true))) (R (AV.v (Value.bool false)))) (R (AV.v (Value.bool false)))) (br ((↑(sOf (repO s n)).size : Int) == IntKind.i64.wrap ((↑s.size : Int) * n)) (br (cOf (repO s n) == (0 : Int)) (br (n == (0 : Int)) (True ∧ R (AV.v (Value.bool true))) (((0 : Int) ≤ (↑s.size : Int) ∧ (↑s.size : Int) ≤ (↑(sOf (repO s n)).size : Int)) ∧ br (eqS (subS (sOf (repO s n)) (0 : Nat) (↑s.size : Int).toNat) s) (True ∧ R (AV.v (Value.bool true))) (R (AV.v (Value.bool false))))) (R (AV.v (Value.bool false)))) (R (AV.v (Value.bool false))))))))))))))) : LC Try.prog 10 [.v (.string s), .v (.int .i64 n)] [gB m] (fun z_ _ => R z_) :=
  lc_of_exec (tbl := h1) tab_ok h1_ok mixed noinv 2 _ Try.func10 rfl Try.ntmps10 (by decide) (by kernel_rfl) (Nat.le_of_ble_eq_true rfl) (@Eq.mpr (execN tab h1 noinv 2 Try.f10.ntmps [] none 0 (body Try.f10) (argsT [.v (.string s), .v (.int .i64 n)] 0) [gB m] (post Try.f10 tab (retK (fun z_ _ => R z_)))) _ (by kernel_rfl) h)


theorem twice_law (m : Int) (s : ByteArray) (n : Int) (hs : s.size ≤ 140737488351232) (h2 : -9223372036854775808 ≤ n ∧ n ≤ 9223372036854775807) : LC Try.prog 10 [.v (.string s), .v (.int .i64 n)] [gB m] (fun z _ => z = .v (.bool true)) :=
  twice_vc m s n (by
    simp only [true_and, and_true, br_iff, Bool.not_eq_true', Bool.not_eq_false', decide_eq_true_eq, decide_eq_false_iff_not, ge_iff_le, gt_iff_lt, beq_iff_eq, beq_eq_false_iff_ne, AV.den, Value.int.injEq, Nat.zero_add, Int.toNat_natCast, eqS_nil, eqS_nil_f]
    refine ⟨fun _ => trivial, fun h => ?_⟩
    have hz := trim_len s.data.toList
    rw [size_data] at hz
    have ht : trimO s = some (mkS (trimL s.data.toList)) := if_pos (by omega)
    have htt : trimO (mkS (trimL s.data.toList)) = some (mkS (trimL s.data.toList)) := by
      rw [trimO, if_pos (by rw [size_mkS]; omega), data_mkS, trim_trim]
    have hl : lowO s = some (mapB lowB s) := if_pos (by omega)
    have hlu : lowO (mapB upB s) = some (mapB lowB s) := by
      rw [lowO, if_pos (by rw [size_mapB]; omega), mapB_mapB, show (fun b => lowB (upB b)) = lowB from funext low_up]
    have hll : lowO (mapB lowB s) = some (mapB lowB s) := by
      rw [lowO, if_pos (by rw [size_mapB]; omega), mapB_mapB, show (fun b => lowB (lowB b)) = lowB from funext low_low]
    simp only [ht, htt, hl, hlu, hll, sOf, cOf, eqS_refl, Bool.true_eq_false, Bool.false_eq_true, bne_self_eq_false, false_implies, true_implies, true_and]
    refine ⟨fun _ => trivial, fun n0 => ⟨fun _ => trivial, fun n1 => ?_⟩⟩
    obtain ⟨k, rfl⟩ : ∃ k : Nat, n = (k : Int) := ⟨n.toNat, by omega⟩
    have hk : s.size * k ≤ 255 * 300 := Nat.mul_le_mul (by omega) (by omega)
    have hr : repO s k = _ := if_pos ⟨by omega, by omega⟩
    have ew : IntKind.i64.wrap ((s.size : Int) * (k : Int)) = ((s.size * k : Nat) : Int) := by rw [← Int.natCast_mul, w64 (by omega)]
    simp only [Int.toNat_natCast] at hr
    simp only [ew]
    by_cases h3 : s.size * k ≤ 255
    · rw [if_pos h3] at hr
      simp only [hr, sOf, cOf, rep_size]
      refine ⟨fun h => absurd h (by omega), fun _ => ⟨fun _ => ⟨fun _ => ⟨fun _ => trivial, fun h4 => ?_⟩, fun h => absurd rfl h⟩, fun h => absurd rfl h⟩⟩
      have h5 : s.size * 1 ≤ s.size * k := Nat.mul_le_mul_left _ (by omega)
      have h6 : subS (mkS (Lib.repeatL s.data.toList k)) 0 s.size = s := by
        obtain ⟨j, rfl⟩ : ∃ j, k = j + 1 := ⟨k - 1, by omega⟩
        rw [subS, data_mkS, Lib.repeatL, List.drop_zero, Nat.sub_zero, List.take_left' (size_data s), mkS_toList]
      rw [h6, eqS_refl]
      exact ⟨by omega, fun _ => trivial, fun h => by cases h⟩
    · rw [if_neg h3] at hr
      simp only [hr, sOf, cOf]
      exact ⟨fun _ => ⟨fun _ => ⟨fun _ => trivial, fun h => absurd rfl h⟩, fun h => absurd rfl h⟩, fun h => absurd h (by omega)⟩)
end Go.Proofs.Ytgafgejkijbmpaa

