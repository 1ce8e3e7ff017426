/- Strs: patterns: steps, what is like a pattern, and where what is like it begins. -/
import Derived.Test.YtgafgejkijbmpaaD
import Derived.Test.YtgafgejkijbmpaaE
import Derived.Test.YtgafgejkijbmpaaL
namespace Go.Eng

/-- The steps of a pattern, folded; 'pl': the byte ahead says that the next one is itself. -/
def stepsF : Bool → List UInt8 → List St
  | pl, [] => if pl then [.lit 126] else []
  | pl, c :: s =>
    if pl = true ∨ (c ≠ 126 ∧ c ≠ 63 ∧ c ≠ 42) then .lit c :: stepsF false s
    else if c = 126 then stepsF true s
    else (if c = 63 then .one else .row) :: stepsF false s

theorem stepsF_tilde (c : UInt8) (s : List UInt8) : stepsF false (126 :: c :: s) = .lit c :: stepsF false s := by
  simp [stepsF]

theorem stepsF_sign {c : UInt8} (h : c = 42 ∨ c = 63) (s : List UInt8) : stepsF false (c :: s) = (if c = 63 then .one else .row) :: stepsF false s := by
  rcases h with rfl | rfl <;> simp [stepsF]

theorem stepsF_else {c : UInt8} {s : List UInt8} (h : ¬ (c = 42 ∨ c = 63)) (h2 : ¬ (c = 126 ∧ s ≠ [])) : stepsF false (c :: s) = .lit c :: stepsF false s := by
  by_cases hc : c = 126
  · subst hc
    have : s = [] := Classical.byContradiction fun e => h2 ⟨rfl, e⟩
    subst this
    simp [stepsF]
  · rw [stepsF, if_pos (.inr ⟨hc, fun e => h (.inr e), fun e => h (.inl e)⟩)]

theorem stepsF_star : ∀ (s : List UInt8) (pl : Bool), (s ≠ [] → s.getLast? ≠ some 126) → (s = [] → pl = false) → stepsF pl (s ++ [42]) = stepsF pl s ++ [.row]
  | [], pl, _, h => by rw [h rfl]; rfl
  | c :: s, pl, h1, _ => by
    have hl : s ≠ [] → s.getLast? ≠ some 126 := fun hs e => h1 (by simp) (by
      cases s with
      | nil => exact absurd rfl hs
      | cons d s => simpa [List.getLast?_cons_cons] using e)
    simp only [List.cons_append, stepsF]
    split
    · rw [stepsF_star s false hl (fun _ => rfl)]; rfl
    · rename_i hp
      split
      · rename_i hc
        have hs : s ≠ [] := fun e => h1 (by simp) (by rw [e, hc]; rfl)
        exact stepsF_star s true hl (fun e => absurd e hs)
      · rw [stepsF_star s false hl (fun _ => rfl)]; rfl

theorem stepsF_len : ∀ (pl : Bool) (s : List UInt8), (stepsF pl s).length ≤ s.length + (if pl then 1 else 0)
  | pl, [] => by cases pl <;> simp [stepsF]
  | pl, c :: s => by
    have h1 := stepsF_len false s
    have h2 := stepsF_len true s
    simp only [Bool.false_eq_true, if_false, if_true] at h1 h2
    simp only [stepsF]
    split
    · simp only [List.length_cons]; split <;> omega
    · rename_i hp
      split
      · cases pl
        · simp only [List.length_cons, Bool.false_eq_true, if_false]; omega
        · exact absurd (.inl rfl) hp
      · simp only [List.length_cons]; split <;> omega

theorem mt_star : ∀ (l : List St) (t : List UInt8), mt (l ++ [.row]) t = true ↔ ∃ k, k ≤ t.length ∧ mt l (t.take k) = true
  | [], t => by
    rw [List.nil_append, mt_row]
    constructor
    · intro _; exact ⟨0, by omega, by simp [mt]⟩
    · intro _; exact ⟨t.length, by omega, by simp [mt]⟩
  | .row :: l, t => by
    rw [List.cons_append, mt_row]
    constructor
    · rintro ⟨a, ha, h⟩
      obtain ⟨k, hk, h⟩ := (mt_star l _).1 h
      rw [List.length_drop] at hk
      refine ⟨a + k, by omega, (mt_row l _).2 ⟨a, by rw [List.length_take]; omega, ?_⟩⟩
      rw [List.drop_take, show a + k - a = k by omega]; exact h
    · rintro ⟨k, hk, h⟩
      obtain ⟨a, ha, h⟩ := (mt_row l _).1 h
      rw [List.length_take] at ha
      refine ⟨a, by omega, (mt_star l _).2 ⟨k - a, by rw [List.length_drop]; omega, ?_⟩⟩
      rw [List.drop_take] at h; exact h
  | .one :: l, t => by
    cases t with
    | nil => simp [mt]
    | cons d t =>
      rw [List.cons_append]
      show mt (l ++ [.row]) t = true ↔ _
      rw [mt_star l t]
      constructor
      · rintro ⟨k, hk, h⟩; exact ⟨k + 1, by simpa using hk, by simpa [mt] using h⟩
      · rintro ⟨k, hk, h⟩
        cases k with
        | zero => simp [mt] at h
        | succ k => exact ⟨k, by simpa using hk, by simpa [mt] using h⟩
  | .lit c :: l, t => by
    cases t with
    | nil => simp [mt]
    | cons d t =>
      rw [List.cons_append]
      show (c == d && mt (l ++ [.row]) t) = true ↔ _
      rw [Bool.and_eq_true, mt_star l t]
      constructor
      · rintro ⟨hc, k, hk, h⟩; exact ⟨k + 1, by simpa using hk, by simp only [List.take_succ_cons, mt, Bool.and_eq_true]; exact ⟨hc, h⟩⟩
      · rintro ⟨k, hk, h⟩
        cases k with
        | zero => simp [mt] at h
        | succ k =>
          simp only [List.take_succ_cons, mt, Bool.and_eq_true] at h
          exact ⟨h.1, k, by simpa using hk, h.2⟩

/-- How the table's cell comes of the cells ahead of it. -/
theorem mt_cell (x : St) (p : List St) (s : List UInt8) {j : Nat} (hj : j ≤ s.length) : mt (x :: p) (s.drop j) = match x with
    | St.row => mt p (s.drop j) || (decide (j < s.length) && mt (x :: p) (s.drop (j + 1)))
    | St.one => decide (j < s.length) && mt p (s.drop (j + 1))
    | St.lit c => decide (j < s.length) && ((c == (s[j]?).getD 0) && mt p (s.drop (j + 1))) := by
  by_cases h : j < s.length
  · have e : s.drop j = s[j] :: s.drop (j + 1) := List.drop_eq_getElem_cons h
    have e2 : (s[j]?).getD 0 = s[j] := by rw [List.getElem?_eq_getElem h]; rfl
    rw [e, e2]
    cases x <;> simp [mt, mt.mtRow, h]
  · have e : s.drop j = [] := List.drop_eq_nil_of_le (by omega)
    rw [e]
    cases x <;> simp [mt, mt.mtRow, h]

theorem nbeqT {a b : Nat} : (a.beq b = true) ↔ a = b := by rw [Nat.beq_eq]
theorem nbeqF {a b : Nat} : (a.beq b = false) ↔ ¬ a = b := by
  rw [← Bool.not_eq_true, Nat.beq_eq]

/-- New blocks beside the known ones. -/
theorem Ext.add {H H' : HH} {w w' : World} (hh : HoldsH H w) (e : Ext [] H' w w') : Ext H (H ++ H') w w' := by
  have fr : Frm [] w w' := by have := e.fr; simpa [ownNums] using this
  have old : HoldsH H w' := ⟨fun i b hi => Cont.holds_block (hh.all i b hi) (fun k hk => fr.block k (Cont.holds_lt (hh.all i b hi) k hk) (by simp)), hh.apart⟩
  have new : ∀ (i : Nat) (b : Blk), H'[i]? = some b → ∀ k ∈ b.nums, w.heap.size ≤ k := fun i b hi k hk => by
    rcases e.src i b hi k hk with ⟨j, d, hj, _⟩ | h
    · simp at hj
    · exact h
  have cases_ : ∀ (i : Nat) (b : Blk), (H ++ H')[i]? = some b → (i < H.length ∧ H[i]? = some b) ∨ (H.length ≤ i ∧ H'[i - H.length]? = some b) := by
    intro i b hi
    rw [List.getElem?_append] at hi
    split at hi
    · rename_i hl; exact .inl ⟨hl, hi⟩
    · exact .inr ⟨by omega, hi⟩
  refine ⟨⟨fun i b hi => ?_, fun i j b c hi hj hij k hk hk2 => ?_⟩, ⟨fr.os, fr.tape, fr.output, fr.size, fun k hk _ => fr.block k hk (by simp)⟩, fun i b hi k hk => ?_⟩
  · rcases cases_ i b hi with ⟨_, h1⟩ | ⟨_, h1⟩
    · exact old.all i b h1
    · exact e.hp.all _ b h1
  · rcases cases_ i b hi with ⟨l1, h1⟩ | ⟨l1, h1⟩ <;> rcases cases_ j c hj with ⟨l2, h2⟩ | ⟨l2, h2⟩
    · exact hh.apart i j b c h1 h2 hij k hk hk2
    · have := Cont.holds_lt (hh.all i b h1) k hk
      have := new _ c h2 k hk2
      omega
    · have := Cont.holds_lt (hh.all j c h2) k hk2
      have := new _ b h1 k hk
      omega
    · exact e.hp.apart _ _ b c h1 h2 (by omega) k hk hk2
  · rcases cases_ i b hi with ⟨_, h1⟩ | ⟨_, h1⟩
    · exact .inl ⟨i, b, h1, hk, id⟩
    · exact .inr (new _ b h1 k hk)

/-- A function that knows no block and makes some. -/
theorem HOk.of_new {P : Program} {f : FuncId} {hd : Handler} (he : Enters P f) (h : ∀ rs args H K, hd rs args H K → ∃ R : AV → HH → Prop, LC P f args [] R ∧ ∀ z H', R z H' → ∃ z' H2, z'.den = z.den ∧ K (.ret z') (H ++ H2) ∧ LeH H' H2) : HOk P f hd := by
  refine ⟨he, fun rs _ args H K w hw hk => ?_⟩
  obtain ⟨R, hlc, hx⟩ := h rs args H K hk
  refine (hlc.calls w ⟨fun i b hi => by simp at hi, fun i j b c hi => by simp at hi⟩).mono fun e w' hq => ?_
  obtain ⟨r, H', rfl, hr, hext⟩ := hq
  obtain ⟨z', H2, h1, h2, h3⟩ := hx r H' hr
  exact ⟨z', H ++ H2, by rw [h1], h2, Ext.add hw ⟨h3.holds _ hext.hp, hext.fr, Whence.le hext.src h3⟩⟩

end Go.Eng
namespace Go.Sp
open Go.Eng

theorem drop_at {s : ByteArray} {i : Nat} (h : i < s.size) : s.data.toList.drop i = bAt s i :: s.data.toList.drop (i + 1) := by
  rw [List.drop_eq_getElem_cons (by rw [size_data]; exact h), bAt, List.getElem?_eq_getElem (by rw [size_data]; exact h)]
  rfl

/-- How a step lies in memory. -/
def stAt (x : St) (o r : Bool) (c : Int) : Prop :=
  match x with
  | St.one => o = true ∧ r = false
  | St.row => o = false ∧ r = true
  | St.lit d => o = false ∧ r = false ∧ c = (d.toNat : Int)

/-- How steps lie in memory. -/
structure stRep (l : List St) (o r : Nat → Bool) (c : Nat → Int) : Prop where
  get : ∀ i x, l[i]? = some x → stAt x (o i) (r i) (c i)

/-- A pattern's steps. -/
def pat (p : ByteArray) : List St := stepsF false (mapB upB p).data.toList
def likeB (p s : ByteArray) : Bool := mt (pat p) (mapB upB s).data.toList
/-- Does something that is like a pattern begin at a place? -/
def hitB (p s : ByteArray) (i : Nat) : Bool := mt (pat p ++ [.row]) ((mapB upB s).data.toList.drop i)

theorem map_data (f : UInt8 → UInt8) (s : ByteArray) : (mapB f s).data.toList = s.data.toList.map f := by rw [mapB, data_mkS]

theorem map_sub (f : UInt8 → UInt8) (s : ByteArray) (a b : Nat) : (mapB f (subS s a b)).data.toList = ((mapB f s).data.toList.drop a).take (b - a) := by
  rw [map_data, map_data, subS, data_mkS, List.map_take, List.map_drop]

theorem hit_iff {p s : ByteArray} {i : Nat} (hi : i ≤ s.size) : hitB p s i = true ↔ ∃ k, i ≤ k ∧ k ≤ s.size ∧ likeB p (subS s i k) = true := by
  unfold hitB likeB
  rw [mt_star]
  constructor
  · rintro ⟨k, hk, h⟩
    rw [List.length_drop, size_data, size_mapB] at hk
    refine ⟨i + k, by omega, by omega, ?_⟩
    rw [map_sub, show i + k - i = k by omega]; exact h
  · rintro ⟨k, h1, h2, h⟩
    rw [map_sub] at h
    exact ⟨k - i, by rw [List.length_drop, size_data, size_mapB]; omega, h⟩

theorem hit_sub (p s : ByteArray) (i : Nat) : hitB p (subS s i s.size) 0 = hitB p s i := by
  unfold hitB
  rw [map_sub, List.drop_zero, List.take_of_length_le (by rw [List.length_drop, size_data, size_mapB]; omega)]

theorem up_tilde {c : UInt8} (h : upB c = 126) : c = 126 := by
  unfold upB at h
  split at h
  · rename_i h1
    have h2 : (c - 32).toNat = c.toNat - 32 := UInt8.toNat_sub_of_le _ _ (by rw [UInt8.le_iff_toNat_le]; simp only [UInt8.toNat_ofNat]; omega)
    rw [h] at h2
    simp only [UInt8.toNat_ofNat] at h2
    omega
  · exact h

theorem like_star {p : ByteArray} (hp : p.data.toList ≠ [] → p.data.toList.getLast? ≠ some 126) (t : ByteArray) : likeB (catS p (mkS [42])) t = hitB p t 0 := by
  unfold likeB hitB pat
  rw [map_data, catS, data_mkS, data_mkS, List.map_append, ← map_data, List.drop_zero]
  have e : [42].map upB = [(42 : UInt8)] := by decide
  rw [e, stepsF_star _ false ?_ (fun _ => rfl)]
  intro h1 h2
  rw [map_data] at h1 h2
  have h0 : p.data.toList ≠ [] := fun e => h1 (by rw [e]; rfl)
  refine hp h0 ?_
  rw [List.getLast?_map] at h2
  cases hg : p.data.toList.getLast? with
  | none => rw [hg] at h2; cases h2
  | some c =>
    rw [hg] at h2
    simp only [Option.map_some, Option.some.injEq] at h2
    rw [up_tilde h2]

/-- The first place, from 1 on, that is so. -/
def firstH (f : Nat → Bool) : Nat → Nat → Option Int
  | 0, _ => none
  | n + 1, i => if f i then some ((i : Int) + 1) else firstH f n (i + 1)

def searchO (p s : ByteArray) (from_ : Int) : Option Int :=
  if p.size ≤ 255 ∧ s.size ≤ 255 ∧ 1 ≤ from_ ∧ from_ ≤ s.size + 1 then firstH (hitB p s) (s.size + 1 - (from_ - 1).toNat) (from_ - 1).toNat else none

theorem first_yes {f : Nat → Bool} {n i : Nat} (h : i < n) (hf : f i = true) : firstH f (n - i) i = some ((i : Int) + 1) := by
  obtain ⟨m, hm⟩ : ∃ m, n - i = m + 1 := ⟨n - i - 1, by omega⟩
  rw [hm, firstH, if_pos hf]

theorem first_no {f : Nat → Bool} {n i : Nat} (h : i < n) (hf : f i = false) : firstH f (n - i) i = firstH f (n - (i + 1)) (i + 1) := by
  obtain ⟨m, hm⟩ : ∃ m, n - i = m + 1 := ⟨n - i - 1, by omega⟩
  rw [hm, firstH, hf, show n - (i + 1) = m by omega]
  simp

theorem first_end {f : Nat → Bool} {n i : Nat} (h : n ≤ i) : firstH f (n - i) i = none := by
  rw [show n - i = 0 by omega]; rfl

end Go.Sp

