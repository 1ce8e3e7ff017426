/- Patterns: what the greedy way and the table say is the same. Plain Lean, no program. -/
namespace Go.Eng

inductive St where
  | one
  | row
  | lit (c : UInt8)
  deriving DecidableEq

/-- Is a text what a row of steps stands for? -/
def mt : List St → List UInt8 → Bool
  | [], s => s.isEmpty
  | .row :: p, s => mtRow (mt p) s
  | .one :: p, s => match s with | [] => false | _ :: s => mt p s
  | .lit c :: p, s => match s with | [] => false | d :: s => (c == d) && mt p s
where
  mtRow (f : List UInt8 → Bool) : List UInt8 → Bool
    | [] => f []
    | c :: s => f (c :: s) || mtRow f s

theorem mtRow_iff (f : List UInt8 → Bool) : ∀ s, mt.mtRow f s = true ↔ ∃ k, k ≤ s.length ∧ f (s.drop k) = true
  | [] => by
    simp only [mt.mtRow, List.length_nil, Nat.le_zero]
    constructor
    · intro h; exact ⟨0, rfl, by simpa using h⟩
    · rintro ⟨k, rfl, h⟩; simpa using h
  | c :: s => by
    simp only [mt.mtRow, Bool.or_eq_true, mtRow_iff f s, List.length_cons]
    constructor
    · rintro (h | ⟨k, hk, h⟩)
      · exact ⟨0, by omega, by simpa using h⟩
      · exact ⟨k + 1, by omega, by simpa using h⟩
    · rintro ⟨k, hk, h⟩
      cases k with
      | zero => exact .inl (by simpa using h)
      | succ k => exact .inr ⟨k, by omega, by simpa using h⟩

theorem mt_row (p : List St) (s : List UInt8) : mt (.row :: p) s = true ↔ ∃ k, k ≤ s.length ∧ mt p (s.drop k) = true := by
  simp only [mt]; exact mtRow_iff _ _

/-- A row of bytes takes what stands ahead. -/
theorem mt_row_drop {p : List St} {s : List UInt8} {a b : Nat} (hab : a ≤ b) (h : mt (.row :: p) (s.drop b) = true) : mt (.row :: p) (s.drop a) = true := by
  rw [mt_row] at h ⊢
  obtain ⟨k, hk, h⟩ := h
  simp only [List.length_drop, List.drop_drop] at hk h ⊢
  by_cases hb : b ≤ s.length
  · exact ⟨b - a + k, by omega, by rw [show a + (b - a + k) = b + k by omega]; exact h⟩
  · refine ⟨s.length - a, by omega, ?_⟩
    rw [List.drop_eq_nil_of_le (by omega)] at h ⊢
    exact h

def notRow : St → Bool
  | .row => false
  | _ => true

/-- Steps that are no rows take just as many bytes. -/
theorem mt_fixed {r : List St} : ∀ {q : List St} {s : List UInt8}, q.all notRow = true → mt (q ++ r) s = true → q.length ≤ s.length ∧ mt r (s.drop q.length) = true
  | [], s, _, h => ⟨by simp, by simpa using h⟩
  | x :: q, s, hq, h => by
    simp only [List.all_cons, Bool.and_eq_true] at hq
    cases x with
    | row => simp [notRow] at hq
    | one =>
      cases s with
      | nil => simp [mt] at h
      | cons c s =>
        simp only [List.cons_append, mt] at h
        obtain ⟨h1, h2⟩ := mt_fixed hq.2 h
        exact ⟨by simpa using h1, by simpa using h2⟩
    | lit d =>
      cases s with
      | nil => simp [mt] at h
      | cons c s =>
        simp only [List.cons_append, mt, Bool.and_eq_true] at h
        obtain ⟨h1, h2⟩ := mt_fixed hq.2 h.2
        exact ⟨by simpa using h1, by simpa using h2⟩

/-- What the greedy way knows: of the row of bytes that it met last, and how far that goes. -/
structure Greedy (p : List St) (s : List UInt8) (i j : Nat) (back : Int) (from_ : Nat) : Prop where
  hi : i ≤ p.length
  hj : j ≤ s.length
  hno : back < 0 → (mt p s = true ↔ mt (p.drop i) (s.drop j) = true)
  hso : ∀ b : Nat, back = (b : Int) → b < i ∧ p[b]? = some .row ∧ from_ + (i - b - 1) = j ∧ ((p.drop (b + 1)).take (i - b - 1)).all notRow = true ∧
    (mt p s = true ↔ (mt (p.drop i) (s.drop j) = true ∨ ∃ k, from_ < k ∧ k ≤ s.length ∧ mt (p.drop (b + 1)) (s.drop k) = true))
  neg : back < 0 → back = -1

def fitsS : St → UInt8 → Bool
  | .one, _ => true
  | .row, _ => false
  | .lit c, d => c == d

theorem mt_fits {p : List St} {s : List UInt8} {i j : Nat} {x : St} {c : UInt8} (hx : p[i]? = some x) (hc : s[j]? = some c) (hn : x ≠ .row) : mt (p.drop i) (s.drop j) = (fitsS x c && mt (p.drop (i + 1)) (s.drop (j + 1))) := by
  obtain ⟨hi, rfl⟩ := List.getElem?_eq_some_iff.1 hx
  obtain ⟨hj, rfl⟩ := List.getElem?_eq_some_iff.1 hc
  rw [List.drop_eq_getElem_cons hi, List.drop_eq_getElem_cons hj]
  cases hp : p[i] with
  | row => exact absurd hp hn
  | one => simp [mt, fitsS]
  | lit d => simp [mt, fitsS]

theorem Greedy.start (p : List St) (s : List UInt8) : Greedy p s 0 0 (-1) 0 :=
  ⟨by omega, by omega, fun _ => by simp, fun b hb => by omega, fun _ => rfl⟩

theorem Greedy.meetRow {p : List St} {s : List UInt8} {i j : Nat} {back : Int} {f : Nat} (g : Greedy p s i j back f) (hx : p[i]? = some .row) : Greedy p s (i + 1) j (i : Int) j := by
  have hi : i < p.length := (List.getElem?_eq_some_iff.1 hx).1
  have hd : p.drop i = .row :: p.drop (i + 1) := by
    rw [List.drop_eq_getElem_cons hi]
    rw [List.getElem?_eq_getElem hi] at hx
    rw [Option.some.inj hx]
  have main : mt p s = true ↔ mt (p.drop i) (s.drop j) = true := by
    by_cases hb : back < 0
    · exact g.hno hb
    · obtain ⟨b, rfl⟩ : ∃ b : Nat, back = (b : Int) := ⟨back.toNat, by omega⟩
      obtain ⟨h1, h2, h3, h4, h5⟩ := g.hso b rfl
      rw [h5]
      refine ⟨?_, .inl⟩
      rintro (h | ⟨k, hk1, hk2, h⟩)
      · exact h
      · have e : p.drop (b + 1) = (p.drop (b + 1)).take (i - b - 1) ++ p.drop i := by
          have := (List.take_append_drop (i - b - 1) (p.drop (b + 1))).symm
          rw [List.drop_drop, show b + 1 + (i - b - 1) = i by omega] at this
          exact this
        rw [e] at h
        obtain ⟨g1, g2⟩ := mt_fixed h4 h
        have hl : ((p.drop (b + 1)).take (i - b - 1)).length = i - b - 1 := by simp; omega
        rw [hl] at g1 g2
        rw [List.drop_drop] at g2
        rw [hd] at g2 ⊢
        exact mt_row_drop (by omega) g2
  refine ⟨by omega, g.hj, fun h => by omega, fun b hb => ?_, fun h => by omega⟩
  obtain rfl : b = i := by omega
  refine ⟨by omega, hx, by omega, by rw [show b + 1 - b - 1 = 0 by omega]; rfl, ?_⟩
  rw [main, hd, mt_row]
  simp only [List.length_drop, List.drop_drop]
  constructor
  · rintro ⟨k, hk, h⟩
    cases k with
    | zero => exact .inl (by simpa using h)
    | succ k => exact .inr ⟨j + (k + 1), by omega, by have := g.hj; omega, h⟩
  · rintro (h | ⟨k, h1, h2, h⟩)
    · exact ⟨0, by omega, by simpa using h⟩
    · exact ⟨k - j, by omega, by rw [show j + (k - j) = k by omega]; exact h⟩

theorem Greedy.fit {p : List St} {s : List UInt8} {i j : Nat} {back : Int} {f : Nat} (g : Greedy p s i j back f) {x : St} {c : UInt8} (hx : p[i]? = some x) (hc : s[j]? = some c) (hn : x ≠ .row) (hf : fitsS x c = true) : Greedy p s (i + 1) (j + 1) back f := by
  have hi : i < p.length := (List.getElem?_eq_some_iff.1 hx).1
  have hj : j < s.length := (List.getElem?_eq_some_iff.1 hc).1
  have e := mt_fits hx hc hn
  rw [hf, Bool.true_and] at e
  refine ⟨by omega, by omega, fun h => by rw [← e]; exact g.hno h, fun b hb => ?_, g.neg⟩
  obtain ⟨h1, h2, h3, h4, h5⟩ := g.hso b hb
  refine ⟨by omega, h2, by omega, ?_, by rw [← e]; exact h5⟩
  have : (p.drop (b + 1)).take (i + 1 - b - 1) = (p.drop (b + 1)).take (i - b - 1) ++ [x] := by
    rw [show i + 1 - b - 1 = (i - b - 1) + 1 by omega, List.take_add_one]
    congr 1
    rw [List.getElem?_drop, show b + 1 + (i - b - 1) = i by omega, hx]
    rfl
  rw [this, List.all_append, h4]
  cases x <;> simp_all [notRow]

theorem Greedy.more {p : List St} {s : List UInt8} {i j : Nat} {b : Nat} {f : Nat} (g : Greedy p s i j (b : Int) f) (hf : f < s.length) (hno : mt (p.drop i) (s.drop j) = false) : Greedy p s (b + 1) (f + 1) (b : Int) (f + 1) := by
  obtain ⟨h1, h2, h3, h4, h5⟩ := g.hso b rfl
  have hb : b < p.length := (List.getElem?_eq_some_iff.1 h2).1
  refine ⟨by omega, by omega, fun h => by omega, fun b' hb' => ?_, fun h => by omega⟩
  obtain rfl : b' = b := by omega
  refine ⟨by omega, h2, by omega, by rw [show b' + 1 - b' - 1 = 0 by omega]; rfl, ?_⟩
  rw [h5, hno]
  constructor
  · rintro (h | ⟨k, k1, k2, h⟩)
    · cases h
    · by_cases hk : k = f + 1
      · subst hk; exact .inl h
      · exact .inr ⟨k, by omega, k2, h⟩
  · rintro (h | ⟨k, k1, k2, h⟩)
    · exact .inr ⟨f + 1, by omega, by omega, h⟩
    · exact .inr ⟨k, by omega, k2, h⟩

theorem Greedy.stuck {p : List St} {s : List UInt8} {i j : Nat} {back : Int} {f : Nat} (g : Greedy p s i j back f) (hno : mt (p.drop i) (s.drop j) = false) (hb : back < 0 ∨ s.length ≤ f) : mt p s = false := by
  rw [Bool.eq_false_iff]
  intro h
  by_cases hn : back < 0
  · rw [g.hno hn, hno] at h; cases h
  · obtain ⟨b, rfl⟩ : ∃ b : Nat, back = (b : Int) := ⟨back.toNat, by omega⟩
    obtain ⟨h1, h2, h3, h4, h5⟩ := g.hso b rfl
    rw [h5, hno] at h
    rcases h with h | ⟨k, k1, k2, _⟩
    · cases h
    · omega

theorem Greedy.done {p : List St} {s : List UInt8} {back : Int} {f : Nat} (g : Greedy p s p.length s.length back f) : mt p s = true := by
  have e : mt (p.drop p.length) (s.drop s.length) = true := by simp [mt]
  by_cases hn : back < 0
  · rw [g.hno hn]; exact e
  · obtain ⟨b, rfl⟩ : ∃ b : Nat, back = (b : Int) := ⟨back.toNat, by omega⟩
    obtain ⟨h1, h2, h3, h4, h5⟩ := g.hso b rfl
    rw [h5]; exact .inl e

end Go.Eng

