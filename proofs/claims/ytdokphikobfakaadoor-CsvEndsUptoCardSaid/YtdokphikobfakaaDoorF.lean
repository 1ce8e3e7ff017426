/- Csv: whether a text has a sign. -/
import Derived.Test.YtdokphikobfakaaDoorE
namespace Go.Eng
open Go.Sp

/-- Which of the signs stands first in a text. -/
def anyF : List AV → Option (Prop × AV)
  | [.v (.string s), .v (.string t)] => (match eqS t (ByteArray.mk #[34, 13, 10]) with | true => some (s.size < 4294967281, .v (.int .i64 (Lib.indexAny s.data.toList [34, 13, 10]))) | false => none)
  | _ => none
end Go.Eng
namespace Go.Proofs.YtdokphikobfakaaDoor
open Go Go.Eng Go.Sp
set_option linter.unusedVariables false
set_option linter.unusedSimpArgs false

theorem sign_mem {b : UInt8} : ([34, 13, 10] : List UInt8).contains b = true ↔ isSign b := by
  simp [isSign, List.contains_cons]

theorem ixrV_pos {b : UInt8} (h : b.toNat < 128) : ixrV (b.toNat : Int) ≥ 0 ↔ isSign b := by
  unfold ixrV
  rw [if_pos ⟨by omega, by omega⟩]
  have : ((b.toNat : Int)).toNat.toUInt8 = b := by simp
  rw [this]
  unfold isSign
  by_cases h1 : b = 34
  · subst h1; decide
  · by_cases h2 : b = 13
    · subst h2; decide
    · by_cases h3 : b = 10
      · subst h3; decide
      · simp [Lib.indexByte, h1, h2, h3, Ne.symm h1, Ne.symm h2, Ne.symm h3]

theorem noAny_of {s : ByteArray} {i : Nat} (h : ∀ q, q < i → ¬ isSign (bAt s q)) : Lib.NoAny s.data.toList [34, 13, 10] i := fun j b hj hb => by
  have e : bAt s j = b := by rw [bAt, hb]; rfl
  have := h j hj
  rw [e] at this
  cases hc : ([34, 13, 10] : List UInt8).contains b with
  | false => rfl
  | true => exact absurd (sign_mem.1 hc) this

set_option maxRecDepth 10000 in
theorem ixa_short (s : ByteArray) (h8 : s.size ≤ 8) : LC Tryd.prog 38 [.v (.string s), .v (.string (ByteArray.mk #[34, 13, 10]))] [] (fun z _ => z = .v (.int .i64 (Lib.indexAny s.data.toList [34, 13, 10]))) :=
  ixa_vc s (by
    refine br_intro (fun h => absurd (of_decide_eq_true h) (by omega)) (fun _ => ?_)
    intro n1
    simp only [true_and, and_true]
    refine ⟨⟨0, ⟨Nat.zero_le _, fun q hq => absurd hq (Nat.not_lt_zero _)⟩, LeH.refl _⟩, fun i hi => ?_⟩
    obtain ⟨h1, h2⟩ := hi
    refine br_intro (fun hlt => ?_) (fun hge => ?_)
    · have hlt : i < s.size := by rw [Nat.blt_eq] at hlt; exact hlt
      have hb : s.data.toList[i]? = some (bAt s i) := by
        rw [bAt, List.getElem?_eq_getElem (by rw [size_data]; exact hlt)]; rfl
      rcases Nat.lt_or_ge (bAt s i).toNat 128 with hb1 | hb1
      · rw [decode_lo hb1]
        refine br_intro (fun h => ?_) (fun h => ?_)
        · have hs := (ixrV_pos hb1).1 (of_decide_eq_true h)
          rw [Lib.indexAny_hit (noAny_of h2) hb (sign_mem.2 hs)]
        · have hs : ¬ isSign (bAt s i) := fun hs => absurd ((ixrV_pos hb1).2 hs) (of_decide_eq_false h)
          refine ⟨i + 1, ⟨hlt, fun q hq => ?_⟩, by omega, LeH.refl _⟩
          rcases Nat.lt_or_ge q i with h3 | h3
          · exact h2 q h3
          · obtain rfl : q = i := by omega
            exact hs
      · obtain ⟨d1, d2, d3, d4⟩ := decode_hi hlt hb1
        refine br_intro (fun h => ?_) (fun h => ?_)
        · have h := of_decide_eq_true h
          rw [ixrV, if_neg (by omega)] at h
          omega
        · refine ⟨i + (Utf8.decode s i).2, ⟨d3, fun q hq => ?_⟩, by omega, LeH.refl _⟩
          rcases Nat.lt_or_ge q i with h3 | h3
          · exact h2 q h3
          · have := d4 q h3 hq
            rintro (e | e | e) <;> rw [e] at this <;> exact absurd this (by decide)
    · have hge : ¬ i < s.size := by rw [← Bool.not_eq_true, Nat.blt_eq] at hge; exact hge
      obtain rfl : i = s.size := by omega
      have := noAny_of h2
      rw [← size_data] at this
      rw [Lib.indexAny_none this])

theorem any_ok : PrOk Tryd.prog 38 anyF := ⟨enters_of (c := body Tryd.f38) Tryd.func38 rfl (by kernel_rfl), fun args p w h hp => by
  unfold anyF at h
  split at h
  · rename_i s t
    split at h
    · rename_i ht
      have ht := eqS_iff.1 ht
      subst ht
      cases h
      rcases Nat.lt_or_ge 8 s.size with h8 | h8
      · refine (Go.Proofs.Tryd.strings_IndexAny_long (fun w => (zero_of_info (n := 256) (by kernel_rfl)).1 w) s (ByteArray.mk #[34, 13, 10]) w (by decide) h8 hp (by decide) (fun j b hj => ?_)).mono fun e w' hq => ?_
        · have : b ∈ ([34, 13, 10] : List UInt8) := List.mem_of_getElem? hj
          simp at this
          rcases this with rfl | rfl | rfl <;> decide
        · obtain ⟨rfl, rfl⟩ := hq
          have hb : Go.RowKit.Below w.heap.size w ((w.alloc (.cells (Lib.setCells [34, 13, 10]) 75)).alloc (.cells (Lib.setCells [34, 13, 10]) 75)) := ((Go.RowKit.Below.refl _ _).alloc (Nat.le_refl _) _).alloc (by simp) _
          exact ⟨rfl, frm_of_below hb⟩
      · refine ((ixa_short s h8).calls w ⟨fun i b hi => by simp at hi, fun i j b c hi => by simp at hi⟩).mono fun e w' hq => ?_
        obtain ⟨r, H', rfl, rfl, hx⟩ := hq
        have fr : Frm [] w w' := by have := hx.fr; simpa [ownNums] using this
        exact ⟨rfl, fr⟩
    · cases h
  · cases h⟩

/-- Whether a field needs quotes. -/
def needsB (s : ByteArray) (alone : Bool) (c : UInt8) : Bool := (alone && Nat.beq s.size 0) || s.data.toList.any fun b => b == c || b == 34 || b == 13 || b == 10

def tf : Tbl := (38, .pre anyF) :: (28, .pure byteF) :: []

theorem tf_ok : TblOk Tryd.prog tf := ⟨any_ok, byte_ok, trivial⟩


def canyI : Handler := inlH tab tf noinv 2 Tryd.f29 2

set_option maxRecDepth 100000 in
theorem cany_ok : HOk Tryd.prog 29 canyI :=
  inl_ok (tbl := tf) tab_ok tf_ok mixed noinv 2 _ 2 Tryd.func29 rfl Tryd.ntmps29 (by decide) (by kernel_rfl) (Nat.le_of_ble_eq_true rfl)


def tf2 : Tbl := (29, .gen canyI) :: tf

theorem tf2_ok : TblOk Tryd.prog tf2 := ⟨cany_ok, tf_ok⟩


set_option maxRecDepth 100000 in
theorem needs_vc (s : ByteArray) (alone : Bool) (c : Int) {R : AV → Prop} (h : (br alone (br (eqS s (ByteArray.mk #[])) (R (AV.v (Value.bool true))) (br (decide (Lib.indexByte s.data.toList c.toNat.toUInt8 ≥ (0 : Int))) (R (AV.v (Value.bool true))) (s.size < (4294967281 : Nat) ∧ R (AV.v (Value.bool (decide (Lib.indexAny s.data.toList [(34 : UInt8), (13 : UInt8), (10 : UInt8)] ≥ (0 : Int)))))))) (br (decide (Lib.indexByte s.data.toList c.toNat.toUInt8 ≥ (0 : Int))) (R (AV.v (Value.bool true))) (s.size < (4294967281 : Nat) ∧ R (AV.v (Value.bool (decide (Lib.indexAny s.data.toList [(34 : UInt8), (13 : UInt8), (10 : UInt8)] ≥ (0 : Int))))))))) : LC Tryd.prog 17 [.v (.string s), .v (.bool alone), .v (.int .u8 c)] [] (fun z_ _ => R z_) :=
  lc_of_exec (tbl := tf2) tab_ok tf2_ok mixed noinv 2 _ Tryd.func17 rfl Tryd.ntmps17 (by decide) (by kernel_rfl) (Nat.le_of_ble_eq_true rfl) (@Eq.mpr (execN tab tf2 noinv 2 Tryd.f17.ntmps [] none 0 (body Tryd.f17) (argsT [.v (.string s), .v (.bool alone), .v (.int .u8 c)] 0) [] (post Tryd.f17 tab (retK (fun z_ _ => R z_)))) _ (by kernel_rfl) h)

end Go.Proofs.YtdokphikobfakaaDoor

