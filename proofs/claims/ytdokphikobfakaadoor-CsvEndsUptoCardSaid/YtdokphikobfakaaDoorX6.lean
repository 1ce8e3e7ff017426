/- Csv: the law CsvBack. -/
import Derived.Test.YtdokphikobfakaaDoorX1
namespace Go.Proofs.YtdokphikobfakaaDoor
open Go Go.Eng Go.Sp
set_option linter.unusedVariables false
set_option linter.unusedSimpArgs false

theorem wrS_zero {c : Int} {L : Nat} {g : Nat → RW} {F : Nat → Nat → ByteArray} (h : (wrS c L g F).2 = 0) : sepOk c ∧ full L g ∧ ¬ (1048576 < L ∨ 16384 < wideN g L) ∧ (wrS c L g F).1 = mkS (rowsL c.toNat.toUInt8 g F L) := by
  unfold wrS at h ⊢
  split at h
  · cases h
  · rename_i h1
    split at h
    · cases h
    · rename_i h2
      rw [if_neg h1, if_neg h2]
      simp only [not_or, Classical.not_not] at h1
      exact ⟨h1.1, h1.2, h2, rfl⟩
theorem wrS_bad {c : Int} {L : Nat} {g : Nat → RW} {F : Nat → Nat → ByteArray} (h : (wrS c L g F).2 ≠ 0) : (wrS c L g F).1 = ByteArray.mk #[] := by
  unfold wrS at h ⊢
  split
  · rfl
  · rename_i h1
    split
    · rfl
    · rename_i h2
      rw [if_neg h1, if_neg h2] at h
      exact absurd rfl h

theorem sep_u8 {c : Int} (h0 : 0 ≤ c) (h1 : c ≤ 255) (h : sepOk c) : c.toNat.toUInt8 ≠ 34 ∧ c.toNat.toUInt8 ≠ 10 ∧ c.toNat.toUInt8 ≠ 13 := by
  have e : (c.toNat.toUInt8).toNat = c.toNat := by simp; omega
  obtain ⟨_, h2, h3, h4⟩ := h
  refine ⟨fun h => ?_, fun h => ?_, fun h => ?_⟩ <;> rw [h] at e <;> simp at e <;> omega

theorem list_small {L : Nat} {g : Nat → RW} {F : Nat → Nat → ByteArray} (h : ¬ (1048576 < L ∨ 16384 < wideN g L)) : ¬ bigR (listR g F L) := by
  unfold bigR
  rw [listR_len]
  rintro (h1 | h1)
  · exact h (.inl h1)
  · rw [wideN_congr (g' := g) fun i hi => listR_row hi] at h1
    exact h (.inr h1)

/-- What Read tells of what was written, with any ends. -/
theorem rd_of_wr {c : Int} {L : Nat} {g : Nat → RW} {F : Nat → Nat → ByteArray} {E : Nat → List UInt8} {s : ByteArray} (h0 : 0 ≤ c) (h1 : c ≤ 255) (hsep : sepOk c) (hf : full L g) (hb : ¬ (1048576 < L ∨ 16384 < wideN g L)) (hE : endOk E L) (hs : s.data.toList = rowsE c.toNat.toUInt8 g F E L)
    {rs : List (List ByteArray)} {b code : Int} (h : rdS s c rs b code) : rs = listR g F L ∧ b = 0 ∧ code = 0 := by
  obtain ⟨u1, u2, u3⟩ := sep_u8 h0 h1 hsep
  have hr : rowsF s c.toNat.toUInt8 0 = some (listR g F L) := rows_read u1 u2 u3 hf hE hs (n := L) (i := 0) (by omega)
  rcases h with ⟨h, _⟩ | ⟨_, h, _⟩ | ⟨_, ⟨rs', h, h2⟩, _⟩ | ⟨_, h, _, h2, h3⟩
  · exact absurd hsep h
  · rw [hr] at h; cases h
  · rw [hr] at h; cases h; exact absurd h2 (list_small hb)
  · rw [hr] at h; cases h; exact ⟨rfl, h2, h3⟩

theorem same_list {L : Nat} {g g' : Nat → RW} {F : Nat → Nat → ByteArray} (h : ∀ i, i < (listR g F L).length → (g' i).len = ((listR g F L).getD i []).length) : sameP (listR g F L).length L g' g (atR (listR g F L)) F := by
  refine ⟨listR_len g F L, fun i hi => ?_⟩
  have hl := h i hi
  rw [listR_len] at hi
  rw [listR_row hi] at hl
  exact ⟨hl, fun j hj => listR_at hi (by omega)⟩

def tb4 : Tbl := (8, .gen cwrH) :: (13, .gen rdH) :: (14, .gen sameH) :: (12, .gen (glH livesH)) :: []

theorem tb4_ok : TblOk Tryd.prog tb4 := ⟨cwrH_ok, rdH_ok, sameH_ok, lives_ok, trivial⟩


set_option maxRecDepth 100000 in
theorem back0_vc (a : Option Addr) (n o L cap : Nat) (g : Nat → RW) (F : Nat → Nat → ByteArray) (S : List Nat) (c m : Int) {R : AV → Prop} (h : (∃ (m_1 : Int), ∃ (g_1 : Nat → RW), ∃ (F_1 : Nat → Nat → ByteArray), ∃ (S_1 : List Nat), ∃ (w : Bool), some (Blk.mk (0 : Nat) (Cont.view (0 : Nat) (1 : Nat) [Col.ints IntKind.i64 fun (x : Nat) => m]) false) = some (Blk.mk (0 : Nat) (Cont.view (0 : Nat) (1 : Nat) [Col.ints IntKind.i64 fun (x : Nat) => m_1]) false) ∧ some (Blk.mk n (Cont.texts o L g F S false) false) = some (Blk.mk n (Cont.texts o L g_1 F_1 S_1 false) w) ∧ ((0 : Int) ≤ c ∧ c ≤ (255 : Int) ∧ smallT L g_1 F_1) ∧ br ((wrS c L g_1 F_1).snd != (0 : Int)) (br (eqS (wrS c L g_1 F_1).fst (ByteArray.mk #[])) (True ∧ R (AV.v (Value.bool true))) (R (AV.v (Value.bool false)))) (((0 : Int) ≤ c ∧ c ≤ (255 : Int) ∧ (wrS c L g_1 F_1).fst.size ≤ (268435456 : Nat)) ∧ ∀ (rs : List (List ByteArray)) (b code : Int) (g_2 : Nat → RW) (a : Option Addr) (n11 n12 : Nat) (S_2 : List Nat), rdS (wrS c L g_1 F_1).fst c rs b code → (∀ (i : Nat), i < rs.length → (g_2 i).len = (rs.getD i []).length) → ∃ (g1 : Nat → RW), ∃ (g2 : Nat → RW), ∃ (F1 : Nat → Nat → ByteArray), ∃ (F2 : Nat → Nat → ByteArray), ∃ (S1 : List Nat), ∃ (S2 : List Nat), ∃ (w1 : Bool), ∃ (w2 : Bool), some (Blk.mk n11 (Cont.texts (0 : Nat) rs.length g_2 (atR rs) S_2 false) true) = some (Blk.mk n11 (Cont.texts (0 : Nat) rs.length g1 F1 S1 false) w1) ∧ some (Blk.mk n (Cont.texts o L g F S false) false) = some (Blk.mk n (Cont.texts o L g2 F2 S2 false) w2) ∧ [Blk.mk (0 : Nat) (Cont.view (0 : Nat) (1 : Nat) [Col.ints IntKind.i64 fun (x : Nat) => m]) false, Blk.mk n (Cont.texts o L g F S false) false].length ≠ (1 : Nat) ∧ (rs.length ≤ (1099511627776 : Nat) ∧ ∀ (i : Nat), i < rs.length → (g1 i).len ≤ (1099511627776 : Nat)) ∧ br (sameV rs.length L g1 g2 F1 F2) (br (b == (0 : Int)) (br (code == (0 : Int)) (True ∧ R (AV.v (Value.bool true))) (R (AV.v (Value.bool false)))) (R (AV.v (Value.bool false)))) (R (AV.v (Value.bool false)))))) : LC Tryd.prog 4 [.os 1 a n o 0 1 L cap, .v (.int .u8 c)] [gB m, ⟨n, .texts o L g F S false, false⟩] (fun z_ _ => R z_) :=
  lc_of_exec (tbl := tb4) tab_ok tb4_ok mixed noinv 2 _ Tryd.func4 rfl Tryd.ntmps4 (by decide) (by kernel_rfl) (Nat.le_of_ble_eq_true rfl) (@Eq.mpr (execN tab tb4 noinv 2 Tryd.f4.ntmps [] none 0 (body Tryd.f4) (argsT [.os 1 a n o 0 1 L cap, .v (.int .u8 c)] 0) [gB m, ⟨n, .texts o L g F S false, false⟩] (post Tryd.f4 tab (retK (fun z_ _ => R z_)))) _ (by kernel_rfl) h)


end Go.Proofs.YtdokphikobfakaaDoor

namespace Go.Proofs.YtdokphikobfakaaDoor
open Go Go.Eng Go.Sp
set_option linter.unusedVariables false
set_option linter.unusedSimpArgs false

theorem ten_ok (L : Nat) : endOk (fun _ => [10]) L := fun i hi => .inl rfl

theorem back_law (a : Option Addr) (n o L cap : Nat) (g : Nat → RW) (F : Nat → Nat → ByteArray) (S : List Nat) (c m : Int) (h0 : 0 ≤ c) (h1 : c ≤ 255) (hs : smallT L g F) : LC Tryd.prog 4 [.os 1 a n o 0 1 L cap, .v (.int .u8 c)] [gB m, ⟨n, .texts o L g F S false, false⟩] (fun z _ => z = .v (.bool true)) :=
  back0_vc a n o L cap g F S c m (by
    have hLs := small_len hs
    have hrs := small_rows hs c.toNat.toUInt8
    refine ⟨m, g, F, S, false, rfl, rfl, ⟨h0, h1, hs⟩, br_intro (fun hne => br_intro (fun _ => ⟨trivial, rfl⟩) (fun h => ?_)) (fun heq => ?_)⟩
    · rw [wrS_bad (by simpa using hne)] at h
      simp [eqS] at h
    · have hz : (wrS c L g F).2 = 0 := bne_eq_false_iff_eq.1 heq
      obtain ⟨hsep, hf, hb, hw⟩ := wrS_zero hz
      have hl : (wrS c L g F).1.data.toList = rowsE c.toNat.toUInt8 g F (fun _ => [10]) L := by rw [hw, data_mkS, rowsE_ten]
      have hsz : (wrS c L g F).1.size = (rowsL c.toNat.toUInt8 g F L).length := by rw [hw]; exact bsize (data_mkS _)
      refine ⟨⟨h0, h1, by omega⟩, fun rs b code g2 a2 n11 n12 S2 hrd hlen => ?_⟩
      obtain ⟨rfl, rfl, rfl⟩ := rd_of_wr h0 h1 hsep hf hb (ten_ok L) hl hrd
      refine ⟨g2, g, atR (listR g F L), F, S2, S, true, false, rfl, rfl, by simp, ⟨by rw [listR_len]; omega, fun i hi => ?_⟩, ?_⟩
      · rw [hlen i hi]
        rw [listR_len] at hi
        rw [listR_row hi]
        have := small_rlen hs hi
        omega
      · rw [sameV_yes (same_list hlen)]
        exact br_intro (fun _ => br_intro (fun _ => br_intro (fun _ => ⟨trivial, rfl⟩) (fun h => by cases h)) (fun h => by cases h)) (fun h => by cases h))
end Go.Proofs.YtdokphikobfakaaDoor

