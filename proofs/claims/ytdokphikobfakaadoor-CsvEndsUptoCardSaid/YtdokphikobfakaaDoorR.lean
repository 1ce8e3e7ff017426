/- A slice of slices of texts, opened. -/
import Derived.Test.YtdokphikobfakaaDoorQ
import Derived.Test.YtdokphikobfakaaDoorEngR
import Derived.Test.YtdokphikobfakaaDoorRows
import Derived.Deep.Slices
namespace Go.Eng
open Go Go.Sp Go.Proofs.YtdokphikobfakaaDoor Go.ChangeShapes Go.WideShapes
set_option linter.unusedVariables false

section
variable {H : Type} {enc : TypeId × Value → H} {P : Program} {w : World} {base : Nat} {spare : Nat → Bool} {held : Bool}

theorem bulk_app (l r : List (DataW H)) : Rows.uptoBulkAll (l ++ r) = Rows.uptoBulkAll l + Rows.uptoBulkAll r := by
  induction l with
  | nil => simp [Rows.uptoBulkAll]
  | cons x l ih => simp only [List.cons_append, Rows.uptoBulkAll, ih]; omega

theorem bulk_range {D : Nat → DataW H} {b : Nat → Nat} : ∀ {n : Nat}, (∀ i, i < n → b i ≤ Rows.uptoBulk (D i)) → sumN b n ≤ Rows.uptoBulkAll ((List.range n).map D)
  | 0, _ => Nat.zero_le _
  | n + 1, h => by
    have h1 := bulk_range (D := D) (b := b) (n := n) fun i hi => h i (by omega)
    have h2 := h n (by omega)
    rw [List.range_succ, List.map_append, bulk_app, sumN]
    simp only [List.map_cons, List.map_nil, Rows.uptoBulkAll]
    omega

/-- Where cells are read one after another the place leads into no part. -/
theorem plain_place {a : Addr} {V : Value} (h : w.cell? (a.add 0) = some V) : a.spot = none := by
  obtain ⟨blk, off, spot⟩ := a
  simp only [Addr.add, if_true] at h
  cases spot with
  | none => rfl
  | some q =>
    simp only [World.cell?] at h
    split at h
    · simp at h
    · cases h

/-- A slice of texts. -/
theorem open_row {t e fuel : Nat} (ht : P.underlying t = some (.slice e)) (he : P.underlying e = some .string) (hc : P.cellsOf e = 1) {v : Value} {x : DataW H × List MemPlace} (h : DataW.trod enc P w base spare held fuel t [v] = some x) :
    ∃ (r : RW) (f : Nat → ByteArray), v = .slice (if r.len = 0 then r.a else some ⟨r.n, r.o, none⟩) r.len r.cap ∧ (∀ j, j < r.len → w.cell? ⟨r.n, r.o + j, none⟩ = some (.string (f j))) ∧ fB f r.len + 1 ≤ Rows.uptoBulk x.1 := by
  rcases Go.Deep.open_slice1 ht hc h with ⟨h1, rfl⟩ | ⟨a, len, cap, m, n, V, D, Pl, h1, _, hl, _, hm, rfl, hx⟩
  · simp only [List.cons.injEq, and_true] at h1
    exact ⟨⟨0, 0, 0, 0, none⟩, fun _ => ByteArray.empty, by simpa using h1, fun j hj => absurd hj (Nat.not_lt_zero _), by simp [fB, sumN, Rows.uptoBulk]⟩
  · simp only [List.cons.injEq, and_true] at h1
    have hml : len ≤ m := by rw [hm]; split <;> omega
    have hb : Rows.uptoBulkAll ((List.range len).map D) + 1 ≤ Rows.uptoBulk (DataW.slice ((List.range len).map D) ((List.range (m - len)).map fun j => D (len + j))) := by
      simp only [Rows.uptoBulk]; omega
    rcases Nat.eq_zero_or_pos len with h0 | h0
    · subst h0
      exact ⟨⟨0, 0, 0, cap, some a⟩, fun _ => ByteArray.empty, by simpa using h1, fun j hj => absurd hj (Nat.not_lt_zero _), Nat.le_trans (by simp [fB, sumN]) hb⟩
    · have hsp := plain_place (hx 0 (by omega)).1
      obtain ⟨blk, off, spot⟩ := a
      obtain rfl : spot = none := hsp
      have hch : ∀ i, ∃ s : ByteArray, i < m → V i = .string s ∧ D i = .lit (.string s.data.toList) := fun i => by
        by_cases hi : i < m
        · obtain ⟨s', h2, h3, _⟩ := DataW.trod_string he (hx i hi).2
          simp only [List.cons.injEq, and_true] at h2
          exact ⟨s', fun _ => ⟨h2, by rw [Prod.mk.injEq] at h3; exact h3.1⟩⟩
        · exact ⟨ByteArray.empty, fun h => absurd h hi⟩
      obtain ⟨f, hf⟩ := Classical.axiomOfChoice hch
      refine ⟨⟨blk, off, len, cap, none⟩, f, ?_, fun j hj => ?_, Nat.le_trans (Nat.add_le_add_right (bulk_range fun i hi => ?_) 1) hb⟩
      · rw [if_neg (by show ¬ len = 0; omega)]; exact h1
      · have := (hx j (Nat.lt_of_lt_of_le hj hml)).1
        rw [(hf j (Nat.lt_of_lt_of_le hj hml)).1] at this
        simpa only [addr_add] using this
      · rw [(hf i (Nat.lt_of_lt_of_le hi hml)).2]
        simp [Rows.uptoBulk]

/-- A slice of slices of texts. -/
theorem open_texts {t t2 e fuel : Nat} (ht : P.underlying t = some (.slice t2)) (hc2 : P.cellsOf t2 = 1) (ht2 : P.underlying t2 = some (.slice e)) (he : P.underlying e = some .string) (hc : P.cellsOf e = 1) {v : Value} {x : DataW H × List MemPlace} (h : DataW.trod enc P w base spare held fuel t [v] = some x) :
    ∃ (a : Option Addr) (n o L cap : Nat) (g : Nat → RW) (F : Nat → Nat → ByteArray) (S : List Nat), v = .slice (if L = 0 then a else some ⟨n, o, none⟩) L cap ∧ (Cont.texts o L g F S false).holds w n ∧ (∀ k ∈ S, ∃ off V, w.cell? ⟨k, off, none⟩ = some V ∧ ((∃ s, V = .string s) ∨ ∃ a l c, V = .slice a l c)) ∧ rB g F L + 1 ≤ Rows.uptoBulk x.1 := by
  rcases Go.Deep.open_slice1 ht hc2 h with ⟨h1, rfl⟩ | ⟨a, len, cap, m, n, V, D, Pl, h1, _, hl, _, hm, rfl, hx⟩
  · simp only [List.cons.injEq, and_true] at h1
    exact ⟨none, 0, 0, 0, 0, fun _ => ⟨0, 0, 0, 0, none⟩, fun _ _ => ByteArray.empty, [], by simpa using h1, ⟨fun k hk => (by cases hk), fun h => absurd h (Nat.lt_irrefl _), fun i hi => absurd hi (Nat.not_lt_zero _), fun h => (by cases h)⟩, fun k hk => (by cases hk), by simp [rB, sumN, Rows.uptoBulk]⟩
  · simp only [List.cons.injEq, and_true] at h1
    have hml : len ≤ m := by rw [hm]; split <;> omega
    have hb : Rows.uptoBulkAll ((List.range len).map D) + 1 ≤ Rows.uptoBulk (DataW.slice ((List.range len).map D) ((List.range (m - len)).map fun j => D (len + j))) := by
      simp only [Rows.uptoBulk]; omega
    rcases Nat.eq_zero_or_pos len with h0 | h0
    · subst h0
      exact ⟨some a, 0, 0, 0, cap, fun _ => ⟨0, 0, 0, 0, none⟩, fun _ _ => ByteArray.empty, [], by simpa using h1, ⟨fun k hk => (by cases hk), fun h => absurd h (Nat.lt_irrefl _), fun i hi => absurd hi (Nat.not_lt_zero _), fun h => (by cases h)⟩, fun k hk => (by cases hk), Nat.le_trans (by simp [rB, sumN]) hb⟩
    · have hsp := plain_place (hx 0 (by omega)).1
      obtain ⟨blk, off, spot⟩ := a
      obtain rfl : spot = none := hsp
      have hch : ∀ i, ∃ q : RW × (Nat → ByteArray), i < m → V i = .slice (if q.1.len = 0 then q.1.a else some ⟨q.1.n, q.1.o, none⟩) q.1.len q.1.cap ∧ (∀ j, j < q.1.len → w.cell? ⟨q.1.n, q.1.o + j, none⟩ = some (.string (q.2 j))) ∧ fB q.2 q.1.len + 1 ≤ Rows.uptoBulk (D i) := fun i => by
        by_cases hi : i < m
        · obtain ⟨r, f, h2⟩ := open_row ht2 he hc (hx i hi).2
          exact ⟨(r, f), fun _ => h2⟩
        · exact ⟨(⟨0, 0, 0, 0, none⟩, fun _ => ByteArray.empty), fun h => absurd h hi⟩
      obtain ⟨q, hq⟩ := Classical.axiomOfChoice hch
      have hcell : ∀ i, i < len → w.cell? ⟨blk, off + i, none⟩ = some (V i) := fun i hi => by
        have := (hx i (by omega)).1
        simpa only [addr_add] using this
      obtain ⟨c, ty, fz, hblk⟩ : ∃ (c : Array Value) (ty : TypeId) (fz : Nat × Nat), w.heap[blk]? = some (.cells c ty fz) := by
        have h2 := hcell 0 h0
        simp only [World.cell?] at h2
        split at h2
        · rename_i c ty fz hh; exact ⟨c, ty, fz, hh⟩
        · cases h2
      have hlt : ∀ {k off : Nat} {V : Value}, w.cell? ⟨k, off, none⟩ = some V → k < w.heap.size := fun {k off V} h => by
        simp only [World.cell?] at h
        split at h
        · rename_i hh
          exact (Array.getElem?_eq_some_iff.1 hh).1
        · cases h
      let S : List Nat := blk :: ((List.range len).filter fun i => decide (0 < (q i).1.len)).map fun i => (q i).1.n
      have hS : ∀ k ∈ S, ∃ off V, w.cell? ⟨k, off, none⟩ = some V ∧ ((∃ s, V = .string s) ∨ ∃ a l c, V = .slice a l c) := fun k hk => by
        rcases List.mem_cons.1 hk with rfl | hk
        · exact ⟨_, _, hcell 0 h0, .inr ⟨_, _, _, (hq 0 (by omega)).1⟩⟩
        · obtain ⟨i, hi, rfl⟩ := List.mem_map.1 hk
          obtain ⟨hi1, hi2⟩ := List.mem_filter.1 hi
          have hi1 := List.mem_range.1 hi1
          exact ⟨_, _, (hq i (by omega)).2.1 0 (of_decide_eq_true hi2), .inl ⟨_, rfl⟩⟩
      refine ⟨none, blk, off, len, cap, fun i => (q i).1, fun i => (q i).2, S, ?_, ⟨fun k hk => ?_, fun _ => ⟨List.mem_cons_self, c.toList, ty, fz, by simpa using hblk, fun i hi => ?_⟩, fun i hi j hj => ⟨List.mem_cons_of_mem _ (List.mem_map.2 ⟨i, List.mem_filter.2 ⟨List.mem_range.2 hi, decide_eq_true (Nat.lt_of_le_of_lt (Nat.zero_le _) hj)⟩, rfl⟩), (hq i (by omega)).2.1 j hj⟩, fun h => (by cases h)⟩, hS, Nat.le_trans (Nat.add_le_add_right (bulk_range fun i hi => (hq i (by omega)).2.2) 1) hb⟩
      · rw [if_neg (by omega)]; exact h1
      · obtain ⟨_, _, h2, _⟩ := hS k hk
        exact hlt h2
      · have h2 := hcell i hi
        simp only [World.cell?, hblk] at h2
        rw [(hq i (by omega)).1] at h2
        simpa using h2
end

/-- The variable's cell, and a slice of slices of texts. -/
theorem holds_texts {w : World} {m : Int} {t : TypeId} {n o L : Nat} {g : Nat → RW} {F : Nat → Nat → ByteArray} {S : List Nat} (h0 : w.heap[0]? = some (.cells #[.int .i64 m] t)) (hv : (Cont.texts o L g F S false).holds w n) (hS : ∀ k ∈ S, ∃ off V, w.cell? ⟨k, off, none⟩ = some V ∧ ((∃ s, V = .string s) ∨ ∃ a l c, V = .slice a l c)) : HoldsH [gB m, ⟨n, .texts o L g F S false, false⟩] w := by
  have hg : HoldsH [gB m] w := cell_gB (by simp [World.cell?, h0])
  have hn : 0 ∉ S := fun hk => by
    obtain ⟨off, V, h1, h2⟩ := hS 0 hk
    simp only [World.cell?, h0] at h1
    cases off with
    | zero =>
      simp at h1
      subst h1
      rcases h2 with ⟨s, h2⟩ | ⟨a, l, c, h2⟩ <;> cases h2
    | succ off => simp at h1
  refine ⟨fun i b hi => ?_, fun i j b c hi hj hij => ?_⟩
  · cases i with
    | zero => exact hg.all 0 b (by simpa using hi)
    | succ i =>
      cases i with
      | zero => simp at hi; subst hi; exact hv
      | succ i => simp at hi
  · match i, j, hi, hj, hij with
    | 0, 0, _, _, hij => exact absurd rfl hij
    | 0, 1, hi, hj, _ =>
      simp at hi hj; subst hi; subst hj
      intro k hk hk2
      simp [Blk.nums, Cont.nums, gB] at hk hk2
      subst hk; exact hn hk2
    | 0, j + 2, _, hj, _ => simp at hj
    | 1, 0, hi, hj, _ =>
      simp at hi hj; subst hi; subst hj
      intro k hk hk2
      simp [Blk.nums, Cont.nums, gB] at hk hk2
      subst hk2; exact hn hk
    | 1, 1, _, _, hij => exact absurd rfl hij
    | 1, j + 2, _, hj, _ => simp at hj
    | i + 2, _, hi, _, _ => simp at hi
end Go.Eng

