/- Csv: how much there is in rows that were read; the law CsvAgain. -/
import Derived.Test.YtdokphikobfakaaDoorX6
namespace Go.Sp
open Go.Eng Go.Proofs.YtdokphikobfakaaDoor

theorem quotedL_sum : ∀ {l t r : List UInt8}, quotedL l = some (t, r) → t.length + r.length + 1 ≤ l.length
  | [], t, r, h => by cases h
  | [b], t, r, h => by
    rw [quotedL] at h
    split at h
    · cases h; simp
    · cases h
  | b :: d :: l, t, r, h => by
    rw [quotedL] at h
    split at h
    · split at h
      · cases hq : quotedL l with
        | none => rw [hq] at h; cases h
        | some p => rw [hq] at h; cases h; have := quotedL_sum (t := p.1) (r := p.2) hq; simp only [List.length_cons]; omega
      · cases h; simp
    · cases hq : quotedL (d :: l) with
      | none => rw [hq] at h; cases h
      | some p => rw [hq] at h; cases h; have := quotedL_sum (t := p.1) (r := p.2) hq; simp only [List.length_cons] at *; omega

/-- A field is no longer than what was read for it. -/
theorem fR_len {s : ByteArray} {c : UInt8} {pos : Nat} (hp : pos ≤ s.size) : okR s pos (fR s c pos) ∧ ((fR s c pos).bad = -1 → (fR s c pos).t.size + pos ≤ (fR s c pos).pos) := by
  have hs : s.data.toList.length = s.size := Array.length_toList
  unfold fR
  split
  · refine ⟨qR_ok hp, fun h => ?_⟩
    cases hq : quotedL (s.data.toList.drop (pos + 1)) with
    | none => rw [qR_none hq] at h; exact absurd h (by show (s.size : Int) ≠ -1; omega)
    | some p =>
      obtain ⟨t, r⟩ := p
      rw [qR_some hq]
      have := quotedL_sum hq
      rw [List.length_drop, hs] at this
      have e : (mkS t).size = t.length := bsize (data_mkS t)
      show (mkS t).size + pos ≤ s.size - r.length
      omega
  · refine ⟨pR_ok hp, fun h => ?_⟩
    unfold pR at h ⊢
    simp only [] at h ⊢
    split
    · rename_i hh
      rw [if_pos hh] at h
      exact absurd h (by show ((pos + _ : Nat) : Int) ≠ -1; omega)
    · have e : (mkS ((s.data.toList.drop pos).takeWhile (plainB c))).size = ((s.data.toList.drop pos).takeWhile (plainB c)).length := bsize (data_mkS _)
      show (mkS _).size + pos ≤ pos + _
      omega

/-- How much there is in a row, in rows. -/
def sumL : List ByteArray → Nat
  | [] => 0
  | t :: fs => t.size + 1 + sumL fs
def sumR : List (List ByteArray) → Nat
  | [] => 0
  | fs :: rs => sumL fs + 1 + sumR rs

theorem rowF_sum {s : ByteArray} {c : UInt8} : ∀ (n : Nat) {pos q : Nat} {fs : List ByteArray}, s.size - pos ≤ n → pos ≤ s.size → rowF s c pos = some (fs, q) → sumL fs + pos ≤ q + 1 ∧ 0 < fs.length ∧ pos ≤ q ∧ q ≤ s.size := by
  intro n
  induction n with
  | zero =>
    intro pos q fs hn hp h
    obtain ⟨⟨f1, f2, f3⟩, f4⟩ := fR_len (c := c) hp
    rw [rowF] at h
    split at h
    · cases h
    · rename_i hb
      split at h
      · rename_i h1; omega
      · cases h
        have := f4 (by omega)
        exact ⟨by simp only [sumL]; omega, by simp, by omega, by omega⟩
  | succ n ih =>
    intro pos q fs hn hp h
    obtain ⟨⟨f1, f2, f3⟩, f4⟩ := fR_len (c := c) hp
    rw [rowF] at h
    split at h
    · cases h
    · rename_i hb
      have f4 := f4 (by omega)
      split at h
      · rename_i h1
        cases hr : rowF s c ((fR s c pos).pos + 1) with
        | none => rw [hr] at h; cases h
        | some y =>
          rw [hr] at h
          cases h
          obtain ⟨g1, g2, g3, g4⟩ := ih (pos := (fR s c pos).pos + 1) (q := y.2) (fs := y.1) (by omega) (by omega) hr
          exact ⟨by simp only [sumL]; omega, by simp, by omega, by omega⟩
      · cases h
        exact ⟨by simp only [sumL]; omega, by simp, by omega, by omega⟩

theorem rowsF_sum {s : ByteArray} {c : UInt8} : ∀ (n : Nat) {pos : Nat} {rs : List (List ByteArray)}, s.size - pos ≤ n → rowsF s c pos = some rs → sumR rs ≤ 3 * (s.size - pos) ∧ ∀ fs ∈ rs, 0 < fs.length := by
  intro n
  induction n with
  | zero =>
    intro pos rs hn h
    rw [rowsF_end (by omega)] at h
    cases h
    exact ⟨Nat.zero_le _, fun fs hf => (by cases hf)⟩
  | succ n ih =>
    intro pos rs hn h
    rcases Nat.lt_or_ge pos s.size with hlt | hge
    · cases hr : rowF s c pos with
      | none => rw [rowsF_none hlt hr] at h; cases h
      | some y =>
        obtain ⟨fs, q⟩ := y
        obtain ⟨g1, g2, g3, g4⟩ := rowF_sum _ (Nat.le_refl _) (Nat.le_of_lt hlt) hr
        obtain ⟨⟨w1, w2, w3⟩, w4⟩ := eR_ok (s := s) (pos := q) g4
        by_cases hb : 0 ≤ (eR s q).bad
        · rw [rowsF_bad hlt hr hb] at h; cases h
        · have hb1 : (eR s q).bad = -1 := by omega
          have hadv : pos < (eR s q).pos := by rcases w4 hb1 with h | h <;> omega
          rw [rowsF_more hlt hr hb1 hadv] at h
          cases hx : rowsF s c (eR s q).pos with
          | none => rw [hx] at h; cases h
          | some z =>
            rw [hx] at h
            cases h
            obtain ⟨k1, k2⟩ := ih (by omega) hx
            refine ⟨by simp only [sumR]; omega, fun f hf => ?_⟩
            rcases List.mem_cons.1 hf with rfl | hf
            · exact g2
            · exact k2 f hf
    · rw [rowsF_end hge] at h
      cases h
      exact ⟨Nat.zero_le _, fun fs hf => (by cases hf)⟩

theorem sumN_shift (b : Nat → Nat) : ∀ n, sumN b (n + 1) = b 0 + sumN (fun i => b (i + 1)) n
  | 0 => by simp [sumN]
  | n + 1 => by rw [sumN, sumN_shift b n, sumN]; omega

theorem sumN_row : ∀ fs : List ByteArray, sumN (fun j => (atS fs j).size + 1) fs.length = sumL fs
  | [] => rfl
  | t :: fs => by
    rw [List.length_cons, sumN_shift, sumL, ← sumN_row fs]
    rfl

theorem sumN_rows : ∀ {rs : List (List ByteArray)} {g : Nat → RW}, (∀ i, i < rs.length → (g i).len = (rs.getD i []).length) → rB g (atR rs) rs.length = sumR rs
  | [], g, _ => rfl
  | fs :: rs, g, h => by
    have ih := sumN_rows (rs := rs) (g := fun i => g (i + 1)) fun i hi => by
      have := h (i + 1) (by simp; omega)
      simpa using this
    have h0 : (g 0).len = fs.length := by simpa using h 0 (by simp)
    unfold rB at ih ⊢
    rw [List.length_cons, sumN_shift, sumR, ← ih, ← sumN_row fs, ← h0]
    rfl

theorem fieldsL_congr {c : UInt8} {n : Nat} {F F' : Nat → ByteArray} : ∀ {k : Nat}, (∀ j, j < k → F j = F' j) → fieldsL c n F k = fieldsL c n F' k
  | 0, _ => rfl
  | k + 1, h => by rw [fieldsL, fieldsL, fieldsL_congr fun j hj => h j (by omega), h k (by omega)]

theorem rowsL_congr {c : UInt8} {g g' : Nat → RW} {F F' : Nat → Nat → ByteArray} : ∀ {L : Nat}, (∀ i, i < L → rowEq g g' F F' i) → rowsL c g F L = rowsL c g' F' L
  | 0, _ => rfl
  | L + 1, h => by
    obtain ⟨h1, h2⟩ := h L (by omega)
    rw [rowsL, rowsL, rowsL_congr fun i hi => h i (by omega), fieldsL_congr h2, h1]

theorem wrS_congr {c : Int} {L : Nat} {g g' : Nat → RW} {F F' : Nat → Nat → ByteArray} (h : ∀ i, i < L → rowEq g g' F F' i) : wrS c L g F = wrS c L g' F' := by
  have h1 : full L g ↔ full L g' := ⟨fun hf i hi => by rw [← (h i hi).1]; exact hf i hi, fun hf i hi => by rw [(h i hi).1]; exact hf i hi⟩
  have h2 : wideN g L = wideN g' L := wideN_congr fun i hi => (h i hi).1
  have h3 := rowsL_congr (c := c.toNat.toUInt8) h
  by_cases hx : ¬ sepOk c ∨ ¬ full L g
  · have hx' : ¬ sepOk c ∨ ¬ full L g' := by rw [← h1]; exact hx
    simp only [wrS, if_pos hx, if_pos hx']
  · have hx' : ¬ (¬ sepOk c ∨ ¬ full L g') := by rw [← h1]; exact hx
    simp only [wrS, if_neg hx, if_neg hx', h2, h3]

theorem wrS_ok {c : Int} {L : Nat} {g : Nat → RW} {F : Nat → Nat → ByteArray} (h1 : sepOk c) (h2 : full L g) (h3 : ¬ (1048576 < L ∨ 16384 < wideN g L)) : wrS c L g F = (mkS (rowsL c.toNat.toUInt8 g F L), 0) := by
  have h0 : ¬ (¬ sepOk c ∨ ¬ full L g) := by simp [h1, h2]
  simp only [wrS, if_neg h0, if_neg h3]

end Go.Sp
namespace Go.Proofs.YtdokphikobfakaaDoor
open Go Go.Eng Go.Sp
set_option linter.unusedVariables false
set_option linter.unusedSimpArgs false


set_option maxRecDepth 100000 in
theorem again0_vc (s : ByteArray) (c m : Int) {R : AV → Prop} (h : (((0 : Int) ≤ c ∧ c ≤ (255 : Int) ∧ s.size ≤ (268435456 : Nat)) ∧ ∀ (rs : List (List ByteArray)) (b code : Int) (g : Nat → RW) (a : Option Addr) (n6 n7 : Nat) (S : List Nat), rdS s c rs b code → (∀ (i : Nat), i < rs.length → (g i).len = (rs.getD i []).length) → br (code != (0 : Int)) (br ((↑rs.length : Int) == (0 : Int)) (br (decide (b ≥ (0 : Int))) (br (decide (b ≤ (↑s.size : Int))) (True ∧ R (AV.v (Value.bool true))) (R (AV.v (Value.bool false)))) (R (AV.v (Value.bool false)))) (R (AV.v (Value.bool false)))) (∃ (m_1 : Int), ∃ (g_1 : Nat → RW), ∃ (F : Nat → Nat → ByteArray), ∃ (S_1 : List Nat), ∃ (w : Bool), some (Blk.mk (0 : Nat) (Cont.view (0 : Nat) (1 : Nat) [Col.ints IntKind.i64 fun (x : Nat) => m]) false) = some (Blk.mk (0 : Nat) (Cont.view (0 : Nat) (1 : Nat) [Col.ints IntKind.i64 fun (x : Nat) => m_1]) false) ∧ some (Blk.mk n6 (Cont.texts (0 : Nat) rs.length g (atR rs) S false) true) = some (Blk.mk n6 (Cont.texts (0 : Nat) rs.length g_1 F S_1 false) w) ∧ ((0 : Int) ≤ c ∧ c ≤ (255 : Int) ∧ smallT rs.length g_1 F) ∧ ((0 : Int) ≤ c ∧ c ≤ (255 : Int) ∧ (wrS c rs.length g_1 F).fst.size ≤ (268435456 : Nat)) ∧ ∀ (rs_1 : List (List ByteArray)) (b code : Int) (g_2 : Nat → RW) (a : Option Addr) (n21 n22 : Nat) (S_2 : List Nat), rdS (wrS c rs.length g_1 F).fst c rs_1 b code → (∀ (i : Nat), i < rs_1.length → (g_2 i).len = (rs_1.getD i []).length) → ∃ (m_2 : Int), ∃ (g_3 : Nat → RW), ∃ (F_1 : Nat → Nat → ByteArray), ∃ (S_3 : List Nat), ∃ (w : Bool), some (Blk.mk (0 : Nat) (Cont.view (0 : Nat) (1 : Nat) [Col.ints IntKind.i64 fun (x : Nat) => m]) false) = some (Blk.mk (0 : Nat) (Cont.view (0 : Nat) (1 : Nat) [Col.ints IntKind.i64 fun (x : Nat) => m_2]) false) ∧ some (Blk.mk n21 (Cont.texts (0 : Nat) rs_1.length g_2 (atR rs_1) S_2 false) true) = some (Blk.mk n21 (Cont.texts (0 : Nat) rs_1.length g_3 F_1 S_3 false) w) ∧ ((0 : Int) ≤ c ∧ c ≤ (255 : Int) ∧ smallT rs_1.length g_3 F_1) ∧ br ((wrS c rs.length g_1 F).snd == (0 : Int)) (br (code == (0 : Int)) (br ((wrS c rs_1.length g_3 F_1).snd == (0 : Int)) (∃ (g1 : Nat → RW), ∃ (g2 : Nat → RW), ∃ (F1 : Nat → Nat → ByteArray), ∃ (F2 : Nat → Nat → ByteArray), ∃ (S1 : List Nat), ∃ (S2 : List Nat), ∃ (w1 : Bool), ∃ (w2 : Bool), some (Blk.mk n6 (Cont.texts (0 : Nat) rs.length g (atR rs) S false) true) = some (Blk.mk n6 (Cont.texts (0 : Nat) rs.length g1 F1 S1 false) w1) ∧ some (Blk.mk n21 (Cont.texts (0 : Nat) rs_1.length g_2 (atR rs_1) S_2 false) true) = some (Blk.mk n21 (Cont.texts (0 : Nat) rs_1.length g2 F2 S2 false) w2) ∧ [Blk.mk (0 : Nat) (Cont.view (0 : Nat) (1 : Nat) [Col.ints IntKind.i64 fun (x : Nat) => m]) false].length ≠ [Blk.mk (0 : Nat) (Cont.view (0 : Nat) (1 : Nat) [Col.ints IntKind.i64 fun (x : Nat) => m]) false, Blk.mk n6 (Cont.texts (0 : Nat) rs.length g (atR rs) S false) true].length ∧ (rs.length ≤ (1099511627776 : Nat) ∧ ∀ (i : Nat), i < rs.length → (g1 i).len ≤ (1099511627776 : Nat)) ∧ br (sameV rs.length rs_1.length g1 g2 F1 F2) (br (eqS (wrS c rs.length g_1 F).fst (wrS c rs_1.length g_3 F_1).fst) (True ∧ R (AV.v (Value.bool true))) (R (AV.v (Value.bool false)))) (R (AV.v (Value.bool false)))) (R (AV.v (Value.bool false)))) (R (AV.v (Value.bool false)))) (R (AV.v (Value.bool false)))))) : LC Tryd.prog 5 [.v (.string s), .v (.int .u8 c)] [gB m] (fun z_ _ => R z_) :=
  lc_of_exec (tbl := tb4) tab_ok tb4_ok mixed noinv 2 _ Tryd.func5 rfl Tryd.ntmps5 (by decide) (by kernel_rfl) (Nat.le_of_ble_eq_true rfl) (@Eq.mpr (execN tab tb4 noinv 2 Tryd.f5.ntmps [] none 0 (body Tryd.f5) (argsT [.v (.string s), .v (.int .u8 c)] 0) [gB m] (post Tryd.f5 tab (retK (fun z_ _ => R z_)))) _ (by kernel_rfl) h)


theorem read_full {s : ByteArray} {c : UInt8} {rs : List (List ByteArray)} {g : Nat → RW} (hr : rowsF s c 0 = some rs) (hl : ∀ i, i < rs.length → (g i).len = (rs.getD i []).length) : full rs.length g ∧ rB g (atR rs) rs.length ≤ 3 * s.size := by
  obtain ⟨h1, h2⟩ := rowsF_sum _ (Nat.le_refl _) hr
  refine ⟨fun i hi => ?_, by rw [sumN_rows hl]; omega⟩
  rw [hl i hi, List.getD_eq_getElem?_getD, List.getElem?_eq_getElem hi]
  exact h2 _ (List.getElem_mem hi)

theorem again_law (s : ByteArray) (c m : Int) (h0 : 0 ≤ c) (h1 : c ≤ 255) (hs : s.size ≤ 1048576) : LC Tryd.prog 5 [.v (.string s), .v (.int .u8 c)] [gB m] (fun z _ => z = .v (.bool true)) :=
  again0_vc s c m (by
    refine ⟨⟨h0, h1, by omega⟩, fun rs b code g a n6 n7 S hrd hlen => ?_⟩
    have bad : code ≠ 0 → rs.length = 0 ∧ 0 ≤ b ∧ b ≤ (s.size : Int) := fun hc => by
      rcases hrd with ⟨_, rfl, rfl, _⟩ | ⟨_, _, rfl, h2, h3, _⟩ | ⟨_, _, rfl, rfl, _⟩ | ⟨_, _, _, _, h⟩
      · exact ⟨rfl, Int.le_refl _, by omega⟩
      · exact ⟨rfl, h2, h3⟩
      · exact ⟨rfl, Int.le_refl _, by omega⟩
      · exact absurd h hc
    refine br_intro (fun hne => ?_) (fun heq => ?_)
    · obtain ⟨e1, e2, e3⟩ := bad (by simpa using hne)
      refine br_intro (fun _ => br_intro (fun _ => br_intro (fun _ => ⟨trivial, rfl⟩) (fun h => absurd e3 (of_decide_eq_false h))) (fun h => absurd e2 (of_decide_eq_false h))) (fun h => ?_)
      rw [e1] at h; cases h
    · have hz : code = 0 := bne_eq_false_iff_eq.1 heq
      obtain ⟨hsep, hr, hbig⟩ : sepOk c ∧ rowsF s c.toNat.toUInt8 0 = some rs ∧ ¬ bigR rs := by
        rcases hrd with ⟨_, _, _, h⟩ | ⟨_, _, _, _, _, h⟩ | ⟨_, _, _, _, h⟩ | ⟨h1, h2, h3, _⟩
        · omega
        · omega
        · omega
        · exact ⟨h1, h2, h3⟩
      obtain ⟨hf, hB⟩ := read_full hr hlen
      have hb : ¬ (1048576 < rs.length ∨ 16384 < wideN g rs.length) := by
        rw [wideN_congr (g' := fun i => ⟨0, 0, (rs.getD i []).length, 0, none⟩) fun i hi => hlen i hi]
        exact hbig
      have hsm : smallT rs.length g (atR rs) := by show rB g (atR rs) rs.length ≤ 16777216; omega
      have hw := wrS_ok (F := atR rs) hsep hf hb
      have hrow := small_rows hsm c.toNat.toUInt8
      have hl : (wrS c rs.length g (atR rs)).1.data.toList = rowsE c.toNat.toUInt8 g (atR rs) (fun _ => [10]) rs.length := by rw [hw, data_mkS, rowsE_ten]
      have hsz : (wrS c rs.length g (atR rs)).1.size = (rowsL c.toNat.toUInt8 g (atR rs) rs.length).length := by rw [hw]; exact bsize (data_mkS _)
      refine ⟨m, g, atR rs, S, true, rfl, rfl, ⟨h0, h1, hsm⟩, ⟨h0, h1, by omega⟩, fun rs2 b2 code2 g2 a2 n21 n22 S2 hrd2 hlen2 => ?_⟩
      obtain ⟨rfl, rfl, rfl⟩ := rd_of_wr h0 h1 hsep hf hb (ten_ok _) hl hrd2
      have heqr : ∀ i, i < rs.length → rowEq g2 g (atR (listR g (atR rs) rs.length)) (atR rs) i := fun i hi => (same_list hlen2).2 i (by rw [listR_len]; exact hi)
      have hsm2 : smallT (listR g (atR rs) rs.length).length g2 (atR (listR g (atR rs) rs.length)) := by
        show rB g2 _ _ ≤ 16777216
        rw [listR_len]
        refine Nat.le_trans (sumN_le fun i hi => ?_) hsm
        obtain ⟨e1, e2⟩ := heqr i hi
        have : fB (atR (listR g (atR rs) rs.length) i) (g2 i).len ≤ fB (atR rs i) (g2 i).len := sumN_le fun j hj => by rw [e2 j hj]; exact Nat.le_refl _
        rw [e1] at this ⊢
        omega
      have hw2 : wrS c (listR g (atR rs) rs.length).length g2 (atR (listR g (atR rs) rs.length)) = wrS c rs.length g (atR rs) := by
        rw [listR_len]; exact wrS_congr heqr
      refine ⟨m, g2, atR (listR g (atR rs) rs.length), S2, true, rfl, rfl, ⟨h0, h1, hsm2⟩, ?_⟩
      rw [hw2]
      refine br_intro (fun _ => br_intro (fun _ => br_intro (fun _ => ?_) (fun h => ?_)) (fun h => by cases h)) (fun h => ?_)
      · refine ⟨g, g2, atR rs, atR (listR g (atR rs) rs.length), S, S2, true, true, rfl, rfl, by simp, ⟨by have := small_len hsm; omega, fun i hi => by have := small_rlen hsm hi; omega⟩, ?_⟩
        have hsame : sameP rs.length (listR g (atR rs) rs.length).length g g2 (atR rs) (atR (listR g (atR rs) rs.length)) := ⟨(listR_len ..).symm, fun i hi => by
          obtain ⟨e1, e2⟩ := heqr i hi
          exact ⟨e1.symm, fun j hj => (e2 j (by omega)).symm⟩⟩
        rw [sameV_yes hsame]
        exact br_intro (fun _ => br_intro (fun _ => ⟨trivial, rfl⟩) (fun h => by simp [eqS] at h)) (fun h => by cases h)
      · rw [hw] at h; cases h
      · rw [hw] at h; cases h)

end Go.Proofs.YtdokphikobfakaaDoor

