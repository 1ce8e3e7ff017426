/- Csv: the law CsvWrites; how long things are. -/
import Derived.Test.YtdokphikobfakaaDoorO
namespace Go.Sp
open Go.Eng Go.Proofs.YtdokphikobfakaaDoor

/-- A sum. -/
def sumN (b : Nat → Nat) : Nat → Nat
  | 0 => 0
  | k + 1 => sumN b k + b k

theorem sumN_mem (b : Nat → Nat) : ∀ {n i : Nat}, i < n → b i ≤ sumN b n
  | n + 1, i, h => by
    rw [sumN]
    rcases Nat.lt_or_ge i n with h1 | h1
    · have := sumN_mem b h1; omega
    · obtain rfl : i = n := by omega
      omega

theorem sumN_len (b : Nat → Nat) (h : ∀ i, 1 ≤ b i) : ∀ n, n ≤ sumN b n
  | 0 => Nat.le_refl _
  | n + 1 => by have := sumN_len b h n; have := h n; rw [sumN]; omega

theorem sumN_le {b c : Nat → Nat} : ∀ {n : Nat}, (∀ i, i < n → b i ≤ c i) → sumN b n ≤ sumN c n
  | 0, _ => Nat.le_refl _
  | n + 1, h => by
    have := sumN_le (b := b) (c := c) (n := n) fun i hi => h i (by omega)
    have := h n (by omega)
    rw [sumN, sumN]; omega

/-- How much there is in a row; in rows. -/
def fB (F : Nat → ByteArray) (k : Nat) : Nat := sumN (fun j => (F j).size + 1) k
def rB (g : Nat → RW) (F : Nat → Nat → ByteArray) (L : Nat) : Nat := sumN (fun i => fB (F i) (g i).len + 1) L

theorem fieldL_le (c : UInt8) (al : Bool) (s : ByteArray) : (fieldL c al s).length ≤ 2 * s.size + 2 := by
  have h1 : s.data.toList.length = s.size := Array.length_toList
  have h2 := quoteL_len s.data.toList
  unfold fieldL
  split
  · simp only [List.length_cons, List.length_append, List.length_nil]; omega
  · omega

theorem fieldsL_le (c : UInt8) (n : Nat) (F : Nat → ByteArray) : ∀ k, (fieldsL c n F k).length ≤ 3 * fB F k
  | 0 => by simp [fieldsL]
  | k + 1 => by
    have h1 := fieldsL_le c n F k
    have h2 := fieldL_le c (Nat.beq n 1) (F k)
    have h3 : (if k = 0 then [] else [c] : List UInt8).length ≤ 1 := by split <;> simp
    have e : fB F (k + 1) = fB F k + ((F k).size + 1) := rfl
    rw [fieldsL, List.length_append, List.length_append, e]
    omega

theorem rowsL_le (c : UInt8) (g : Nat → RW) (F : Nat → Nat → ByteArray) : ∀ L, (rowsL c g F L).length ≤ 3 * rB g F L
  | 0 => by simp [rowsL]
  | L + 1 => by
    have h1 := rowsL_le c g F L
    have h2 := fieldsL_le c (g L).len (F L) (g L).len
    have e : rB g F (L + 1) = rB g F L + (fB (F L) (g L).len + 1) := rfl
    rw [rowsL, List.length_append, List.length_append, e]
    simp only [List.length_singleton]
    omega

end Go.Sp
namespace Go.Eng
open Go.Sp Go.Proofs.YtdokphikobfakaaDoor

/-- All is small. -/
def smallT (L : Nat) (g : Nat → RW) (F : Nat → Nat → ByteArray) : Prop := rB g F L ≤ 16777216

/-- The two Writes. -/
def cwrH : Handler := fun _ args H K =>
  match args with
  | [.os (k + 1) _ n o 0 1 L _, .v (.int .u8 c)] => ∃ (m : Int) (g : Nat → RW) (F : Nat → Nat → ByteArray) (S : List Nat) (w : Bool), nth H 0 = some (gB m) ∧ nth H (k + 1) = some ⟨n, .texts o L g F S false, w⟩ ∧ (0 ≤ c ∧ c ≤ 255 ∧ smallT L g F) ∧ K (.ret (.tup [.v (.string (wrS c L g F).1), .v (.int .i64 (wrS c L g F).2)])) H
  | _ => False
def rwrH : Handler := fun _ args H K =>
  match args with
  | [.os 1 _ n o 0 1 L _, .v (.int .u8 c)] => ∃ (g : Nat → RW) (F : Nat → Nat → ByteArray) (S : List Nat) (w : Bool), nth H 1 = some ⟨n, .texts o L g F S false, w⟩ ∧ (0 ≤ c ∧ c ≤ 255 ∧ smallT L g F) ∧ K (.ret (.tup [.v (.string (wrS c L g F).1), .v (.int .i64 (wrS c L g F).2)])) H
  | _ => False

end Go.Eng
namespace Go.Proofs.YtdokphikobfakaaDoor
open Go Go.Eng Go.Sp
set_option linter.unusedVariables false
set_option linter.unusedSimpArgs false

theorem small_len {L : Nat} {g : Nat → RW} {F : Nat → Nat → ByteArray} (h : smallT L g F) : L ≤ 16777216 := Nat.le_trans (sumN_len _ (fun i => by omega) L) h
theorem small_row {L : Nat} {g : Nat → RW} {F : Nat → Nat → ByteArray} (h : smallT L g F) {i : Nat} (hi : i < L) : fB (F i) (g i).len ≤ 16777216 := by
  have := sumN_mem (fun i => fB (F i) (g i).len + 1) hi
  have h : rB g F L ≤ 16777216 := h
  unfold rB at h
  omega
theorem small_rlen {L : Nat} {g : Nat → RW} {F : Nat → Nat → ByteArray} (h : smallT L g F) {i : Nat} (hi : i < L) : (g i).len ≤ 16777216 :=
  Nat.le_trans (sumN_len (fun j => (F i j).size + 1) (fun i => by omega) _) (small_row h hi)
theorem small_text {L : Nat} {g : Nat → RW} {F : Nat → Nat → ByteArray} (h : smallT L g F) {i j : Nat} (hi : i < L) (hj : j < (g i).len) : (F i j).size ≤ 16777216 := by
  have := sumN_mem (fun j => (F i j).size + 1) hj
  have h := small_row h hi
  unfold fB at h
  omega
theorem small_rows {L : Nat} {g : Nat → RW} {F : Nat → Nat → ByteArray} (h : smallT L g F) (c : UInt8) : (rowsL c g F L).length ≤ 50331648 := by
  have := rowsL_le c g F L
  have h : rB g F L ≤ 16777216 := h
  omega

theorem cwrH_ok : HOk Tryd.prog 8 cwrH := HOk.of_read (enters_of (c := body Tryd.f8) Tryd.func8 rfl (by kernel_rfl)) fun rs args H K hk => by
  unfold cwrH at hk
  split at hk
  · rename_i k a n o L cap c
    obtain ⟨m, g, F, S, w, h1, h2, ⟨h3, h4, h5⟩, hk⟩ := hk
    refine ⟨[gB m, ⟨n, .texts o L g F S false, false⟩], [.os 1 a n o 0 1 L cap, .v (.int .u8 c)], _, leAt (H := H) [0, k + 1] (by simp) ?_, rfl, rfl, (cwr_lc a n o L cap g F S c m h3 h4 (by have := small_len h5; omega) (by have := small_rows h5 c.toNat.toUInt8; omega) (fun i hi => by have := small_rlen h5 hi; omega) (fun i k hi hk => by have := small_text h5 hi hk; omega)).mono fun r H' e => by rw [e]; rfl, hk⟩
    simp only [pickH, h1, h2]
    exact ⟨LeB.refl _, texts_read, trivial⟩
  · exact hk.elim

theorem rwrH_ok : HOk Tryd.prog 9 rwrH := HOk.of_read (enters_of (c := body Tryd.f9) Tryd.func9 rfl (by kernel_rfl)) fun rs args H K hk => by
  unfold rwrH at hk
  split at hk
  · rename_i a n o L cap c
    obtain ⟨g, F, S, w, h2, ⟨h3, h4, h5⟩, hk⟩ := hk
    refine ⟨[⟨n, .texts o L g F S false, false⟩], [.os 0 a n o 0 1 L cap, .v (.int .u8 c)], _, leAt [1] (by decide) ?_, rfl, rfl, (rwr_lc a n o L cap g F S c h3 h4 (by have := small_len h5; omega) (by have := small_rows h5 c.toNat.toUInt8; omega) (fun i hi => by have := small_rlen h5 hi; omega)).mono fun r H' e => by rw [e]; rfl, hk⟩
    simp only [pickH, h2]
    exact ⟨texts_read, trivial⟩
  · exact hk.elim

def tq : Tbl := (8, .gen cwrH) :: (9, .gen rwrH) :: (10, .gen wideH) :: (11, .gen wideH) :: (12, .gen (glH livesH)) :: []

theorem tq_ok : TblOk Tryd.prog tq := ⟨cwrH_ok, rwrH_ok, cwideH_ok, rwideH_ok, lives_ok, trivial⟩


set_option maxRecDepth 100000 in
theorem writes0_vc (a : Option Addr) (n o L cap : Nat) (g : Nat → RW) (F : Nat → Nat → ByteArray) (S : List Nat) (c m : Int) {R : AV → Prop} (h : (∃ (m_1 : Int), ∃ (g_1 : Nat → RW), ∃ (F_1 : Nat → Nat → ByteArray), ∃ (S_1 : List Nat), ∃ (w : Bool), some (Blk.mk (0 : Nat) (Cont.view (0 : Nat) (1 : Nat) [Col.ints IntKind.i64 fun (x : Nat) => m]) false) = some (Blk.mk (0 : Nat) (Cont.view (0 : Nat) (1 : Nat) [Col.ints IntKind.i64 fun (x : Nat) => m_1]) false) ∧ some (Blk.mk n (Cont.texts o L g F S false) false) = some (Blk.mk n (Cont.texts o L g_1 F_1 S_1 false) w) ∧ ((0 : Int) ≤ c ∧ c ≤ (255 : Int) ∧ smallT L g_1 F_1) ∧ ∃ (g_2 : Nat → RW), ∃ (F_2 : Nat → Nat → ByteArray), ∃ (S_2 : List Nat), ∃ (w : Bool), some (Blk.mk n (Cont.texts o L g F S false) false) = some (Blk.mk n (Cont.texts o L g_2 F_2 S_2 false) w) ∧ ((0 : Int) ≤ c ∧ c ≤ (255 : Int) ∧ smallT L g_2 F_2) ∧ br (eqS (wrS c L g_1 F_1).fst (wrS c L g_2 F_2).fst) (br ((wrS c L g_1 F_1).snd == (wrS c L g_2 F_2).snd) (∃ (g_3 : Nat → RW), ∃ (F_3 : Nat → Nat → ByteArray), ∃ (S_3 : List Nat), ∃ (w : Bool), some (Blk.mk n (Cont.texts o L g F S false) false) = some (Blk.mk n (Cont.texts o L g_3 F_3 S_3 false) w) ∧ L ≤ (9223372036854775807 : Nat) ∧ ∃ (g_4 : Nat → RW), ∃ (F_4 : Nat → Nat → ByteArray), ∃ (S_4 : List Nat), ∃ (w : Bool), some (Blk.mk n (Cont.texts o L g F S false) false) = some (Blk.mk n (Cont.texts o L g_4 F_4 S_4 false) w) ∧ L ≤ (9223372036854775807 : Nat) ∧ br ((↑(wideN g_3 L) : Int) == (↑(wideN g_4 L) : Int)) (True ∧ R (AV.v (Value.bool true))) (R (AV.v (Value.bool false)))) (R (AV.v (Value.bool false)))) (R (AV.v (Value.bool false))))) : LC Tryd.prog 3 [.os 1 a n o 0 1 L cap, .v (.int .u8 c)] [gB m, ⟨n, .texts o L g F S false, false⟩] (fun z_ _ => R z_) :=
  lc_of_exec (tbl := tq) tab_ok tq_ok mixed noinv 2 _ Tryd.func3 rfl Tryd.ntmps3 (by decide) (by kernel_rfl) (Nat.le_of_ble_eq_true rfl) (@Eq.mpr (execN tab tq noinv 2 Tryd.f3.ntmps [] none 0 (body Tryd.f3) (argsT [.os 1 a n o 0 1 L cap, .v (.int .u8 c)] 0) [gB m, ⟨n, .texts o L g F S false, false⟩] (post Tryd.f3 tab (retK (fun z_ _ => R z_)))) _ (by kernel_rfl) h)


theorem writes_law (a : Option Addr) (n o L cap : Nat) (g : Nat → RW) (F : Nat → Nat → ByteArray) (S : List Nat) (c m : Int) (h0 : 0 ≤ c) (h1 : c ≤ 255) (hs : smallT L g F) : LC Tryd.prog 3 [.os 1 a n o 0 1 L cap, .v (.int .u8 c)] [gB m, ⟨n, .texts o L g F S false, false⟩] (fun z _ => z = .v (.bool true)) :=
  writes0_vc a n o L cap g F S c m (by
    have := small_len hs
    refine ⟨m, g, F, S, false, rfl, rfl, ⟨h0, h1, hs⟩, g, F, S, false, rfl, ⟨h0, h1, hs⟩, ?_⟩
    refine br_intro (fun _ => br_intro (fun _ => ⟨g, F, S, false, rfl, by omega, g, F, S, false, rfl, by omega, br_intro (fun _ => ⟨trivial, rfl⟩) (fun h => ?_)⟩) (fun h => ?_)) (fun h => ?_)
    · simp at h
    · simp at h
    · simp [eqS] at h)

end Go.Proofs.YtdokphikobfakaaDoor

