/- Csv: what was written is read. -/
import Derived.Test.YtdokphikobfakaaDoorX3
namespace Go.Sp
open Go.Eng Go.Proofs.YtdokphikobfakaaDoor

/-- Rows as written, with any ends. -/
def rowsE (c : UInt8) (g : Nat → RW) (F : Nat → Nat → ByteArray) (E : Nat → List UInt8) : Nat → List UInt8
  | 0 => []
  | i + 1 => rowsE c g F E i ++ fieldsL c (g i).len (F i) (g i).len ++ E i

theorem rowsE_ten (c : UInt8) (g : Nat → RW) (F : Nat → Nat → ByteArray) : ∀ L, rowsE c g F (fun _ => [10]) L = rowsL c g F L
  | 0 => rfl
  | L + 1 => by rw [rowsE, rowsL, rowsE_ten c g F L]

theorem rowsE_pre (c : UInt8) (g : Nat → RW) (F : Nat → Nat → ByteArray) (E : Nat → List UInt8) {i : Nat} : ∀ {L : Nat}, i ≤ L → ∃ Y, rowsE c g F E L = rowsE c g F E i ++ Y ∧ (i = L → Y = [])
  | 0, h => by obtain rfl : i = 0 := by omega
               exact ⟨[], by simp, fun _ => rfl⟩
  | L + 1, h => by
    rcases Nat.lt_or_ge i (L + 1) with h1 | h1
    · obtain ⟨Y, hY, _⟩ := rowsE_pre c g F E (i := i) (L := L) (by omega)
      exact ⟨Y ++ fieldsL c (g L).len (F L) (g L).len ++ E L, by rw [rowsE, hY]; simp, fun e => by omega⟩
    · obtain rfl : i = L + 1 := by omega
      exact ⟨[], by simp, fun _ => rfl⟩

theorem fieldsL_pre (c : UInt8) (n : Nat) (F : Nat → ByteArray) {k : Nat} : ∀ {m : Nat}, k ≤ m → ∃ Y, fieldsL c n F m = fieldsL c n F k ++ Y
  | 0, h => by obtain rfl : k = 0 := by omega
               exact ⟨[], by simp⟩
  | m + 1, h => by
    rcases Nat.lt_or_ge k (m + 1) with h1 | h1
    · obtain ⟨Y, hY⟩ := fieldsL_pre c n F (k := k) (m := m) (by omega)
      exact ⟨Y ++ (if m = 0 then [] else [c]) ++ fieldL c (Nat.beq n 1) (F m), by rw [fieldsL, hY]; simp⟩
    · obtain rfl : k = m + 1 := by omega
      exact ⟨[], by simp⟩

/-- What stands ahead of a field; ahead of what parts it from the one before. -/
def toK (c : UInt8) (g : Nat → RW) (F : Nat → Nat → ByteArray) (E : Nat → List UInt8) (i k : Nat) : List UInt8 := rowsE c g F E i ++ fieldsL c (g i).len (F i) k
def toS (c : UInt8) (g : Nat → RW) (F : Nat → Nat → ByteArray) (E : Nat → List UInt8) (i k : Nat) : List UInt8 := toK c g F E i k ++ (if k = 0 then [] else [c])

theorem toK_succ (c : UInt8) (g : Nat → RW) (F : Nat → Nat → ByteArray) (E : Nat → List UInt8) (i k : Nat) : toK c g F E i (k + 1) = toS c g F E i k ++ fieldL c (Nat.beq (g i).len 1) (F i k) := by
  simp [toK, toS, fieldsL, List.append_assoc]

/-- Where rows may end. -/
def endOk (E : Nat → List UInt8) (L : Nat) : Prop := ∀ i, i < L → E i = [10] ∨ E i = [13, 10] ∨ (i + 1 = L ∧ E i = [])

/-- What stands behind a field. -/
def behind (c : UInt8) (Z : List UInt8) : Prop := Z = [] ∨ ∃ d Y, Z = d :: Y ∧ (d = c ∨ d = 10 ∨ d = 13)

theorem at_more {c : UInt8} {g : Nat → RW} {F : Nat → Nat → ByteArray} {E : Nat → List UInt8} {L i k : Nat} (hi : i < L) (hk : k + 1 < (g i).len) : ∃ Y, rowsE c g F E L = toK c g F E i (k + 1) ++ c :: Y := by
  obtain ⟨Y, hY, _⟩ := rowsE_pre c g F E (i := i + 1) (L := L) hi
  obtain ⟨X, hX⟩ := fieldsL_pre c (g i).len (F i) (k := k + 2) (m := (g i).len) (by omega)
  refine ⟨fieldL c (Nat.beq (g i).len 1) (F i (k + 1)) ++ X ++ E i ++ Y, ?_⟩
  rw [hY, rowsE, hX, show k + 2 = (k + 1) + 1 from rfl, fieldsL, if_neg (by omega)]
  simp [toK, List.append_assoc]

theorem at_end {c : UInt8} {g : Nat → RW} {F : Nat → Nat → ByteArray} {E : Nat → List UInt8} {L i : Nat} (hE : endOk E L) (hi : i < L) : ∃ Y, rowsE c g F E L = toK c g F E i (g i).len ++ (E i ++ Y) ∧ (E i = [] → Y = []) ∧ rowsE c g F E (i + 1) = toK c g F E i (g i).len ++ E i := by
  obtain ⟨Y, hY, hY0⟩ := rowsE_pre c g F E (i := i + 1) (L := L) hi
  refine ⟨Y, by rw [hY, rowsE]; simp [toK], fun e => ?_, by rw [rowsE]; rfl⟩
  rcases hE i hi with h | h | ⟨h, _⟩
  · rw [h] at e; cases e
  · rw [h] at e; cases e
  · exact hY0 h

theorem quoted_quote {Z : List UInt8} (hZ : Z.head? ≠ some 34) : ∀ l : List UInt8, quotedL (quoteL l ++ 34 :: Z) = some (l, Z)
  | [] => quotedL_end hZ (h := []) (by simp)
  | b :: l => by
    have ih := quoted_quote hZ l
    rw [quoteL]
    split
    · rename_i hb
      subst hb
      rw [List.cons_append, List.cons_append, quotedL_two, ih]; rfl
    · rename_i hb
      rw [List.cons_append, quotedL_ne hb, ih]; rfl

theorem behind_head {c : UInt8} {Z : List UInt8} (hc : c ≠ 34) (h : behind c Z) : Z.head? ≠ some 34 := by
  rcases h with rfl | ⟨d, Y, rfl, hd⟩
  · simp
  · rw [List.head?_cons]
    intro e
    cases e
    rcases hd with h | h | h
    · exact hc h.symm
    · exact absurd h (by decide)
    · exact absurd h (by decide)

/-- A field that was written is read. -/
theorem field_read {s : ByteArray} {c : UInt8} {p : Nat} {al : Bool} {f : ByteArray} {Z : List UInt8} (hc : c ≠ 34) (hd : s.data.toList.drop p = fieldL c al f ++ Z) (hz : s.size = p + (fieldL c al f).length + Z.length) (hZ : behind c Z) : fR s c p = ⟨f, p + (fieldL c al f).length, -1⟩ := by
  have hh := behind_head hc hZ
  cases hn : needsB f al c with
  | true =>
    rw [fieldL_yes hn] at hd hz ⊢
    unfold fR
    rw [hd, if_pos (by rfl)]
    have h1 : s.data.toList.drop (p + 1) = quoteL f.data.toList ++ 34 :: Z := by
      rw [← List.drop_drop, hd]; simp
    have hq : quotedL (s.data.toList.drop (p + 1)) = some (f.data.toList, Z) := by rw [h1, quoted_quote hh]
    rw [qR_some hq, mkS_toList]
    congr 1
    omega
  | false =>
    rw [fieldL_no hn] at hd hz ⊢
    have hno : ∀ b ∈ f.data.toList, plainB c b = true := fun b hb => by
      have h1 : b ≠ c := fun e => by
        have := needsB_iff (s := f) (alone := al) (c := c)
        rw [hn] at this
        exact absurd (this.2 (.inr (.inl (e ▸ hb)))) (by decide)
      have h2 : ¬ isSign b := fun e => by
        have := needsB_iff (s := f) (alone := al) (c := c)
        rw [hn] at this
        exact absurd (this.2 (.inr (.inr ⟨b, hb, e⟩))) (by decide)
      have h3 := noSign_iff.2 h2
      show (!(b == c) && noSign b) = true
      rw [h3]; simp [h1]
    have htw : (s.data.toList.drop p).takeWhile (plainB c) = f.data.toList := by
      rw [hd]
      rcases hZ with rfl | ⟨d, Y, rfl, hd'⟩
      · rw [List.append_nil]; exact tw_all hno
      · refine tw_cut ?_ hno
        show (!(d == c) && noSign d) = false
        rcases hd' with rfl | rfl | rfl
        · simp
        · simp [noSign]
        · simp [noSign]
    have hne : ¬ (s.data.toList.drop p).head? = some 34 := by
      rw [hd]
      cases hf : f.data.toList with
      | nil => rw [List.nil_append]; exact hh
      | cons b l =>
        rw [List.cons_append, List.head?_cons]
        intro e; cases e
        have := hno 34 (by rw [hf]; exact List.mem_cons_self)
        simp [plainB] at this
    have hdd : s.data.toList.drop (p + f.data.toList.length) = Z := by
      rw [← List.drop_drop, hd]; simp
    unfold fR
    rw [if_neg hne]
    unfold pR
    simp only [htw, hdd]
    rw [if_neg hh, mkS_toList]

section
variable {c : UInt8} {g : Nat → RW} {F : Nat → Nat → ByteArray} {E : Nat → List UInt8} {L : Nat} {s : ByteArray}

/-- A row that was written is read. -/
theorem row_read (hc : c ≠ 34) (h10 : c ≠ 10) (h13 : c ≠ 13) (hE : endOk E L) (hs : s.data.toList = rowsE c g F E L) {i : Nat} (hi : i < L) : ∀ {n k : Nat}, k + n + 1 = (g i).len → rowF s c (toS c g F E i k).length = some ((List.range' k (n + 1)).map (F i), (toK c g F E i (g i).len).length)
  | n, k, hk => by
    have hsl : s.data.toList.length = s.size := Array.length_toList
    cases n with
    | zero =>
      have hk1 : k + 1 = (g i).len := by omega
      obtain ⟨Y, hY, hY0, _⟩ := at_end (c := c) (g := g) (F := F) hE hi
      have hT := hY
      rw [← hk1, toK_succ] at hT
      have hlen := congrArg List.length hT
      rw [← hs, hsl] at hlen
      simp only [List.length_append] at hlen
      have hZ : behind c (E i ++ Y) := by
        rcases hE i hi with h | h | ⟨_, h⟩
        · rw [h]; exact .inr ⟨10, Y, rfl, .inr (.inl rfl)⟩
        · rw [h]; exact .inr ⟨13, 10 :: Y, rfl, .inr (.inr rfl)⟩
        · rw [h, hY0 h]; exact .inl rfl
      have hv := field_read (p := (toS c g F E i k).length) (al := Nat.beq (g i).len 1) (f := F i k) hc (by rw [hs, hT, List.append_assoc]; simp) (by rw [List.length_append]; omega) hZ
      have hpos : (toS c g F E i k).length + (fieldL c (Nat.beq (g i).len 1) (F i k)).length = (toK c g F E i (g i).len).length := by
        rw [← hk1, toK_succ, List.length_append, hk1]
      rw [rowF_end hv rfl fun h => ?_]
      · rw [hpos]; rfl
      · have h2 := h.2
        rw [show ({ t := F i k, pos := (toS c g F E i k).length + (fieldL c (Nat.beq (g i).len 1) (F i k)).length, bad := -1 } : FR).pos = (toK c g F E i (g i).len).length from hpos, hs, hY, List.getElem?_append_right (Nat.le_refl _), Nat.sub_self] at h2
        rcases hE i hi with h | h | ⟨_, h⟩
        · rw [h] at h2; simp at h2; exact h10 h2.symm
        · rw [h] at h2; simp at h2; exact h13 h2.symm
        · rw [h, hY0 h] at h2; cases h2
    | succ n =>
      obtain ⟨Y, hY⟩ := at_more (c := c) (g := g) (F := F) (E := E) (L := L) hi (k := k) (by omega)
      have hT := hY
      rw [toK_succ] at hT
      have hlen := congrArg List.length hT
      rw [← hs, hsl] at hlen
      simp only [List.length_append, List.length_cons] at hlen
      have hv := field_read (p := (toS c g F E i k).length) (al := Nat.beq (g i).len 1) (f := F i k) hc (by rw [hs, hT, List.append_assoc]; simp) (by rw [List.length_cons]; omega) (.inr ⟨c, Y, rfl, .inl rfl⟩)
      have hpos : (toS c g F E i k).length + (fieldL c (Nat.beq (g i).len 1) (F i k)).length = (toK c g F E i (k + 1)).length := by
        rw [toK_succ, List.length_append]
      rw [hpos] at hv
      have hby : s.data.toList[(toK c g F E i (k + 1)).length]? = some c := by
        rw [hs, hY, List.getElem?_append_right (Nat.le_refl _), Nat.sub_self]; rfl
      have hnx : (toK c g F E i (k + 1)).length + 1 = (toS c g F E i (k + 1)).length := by
        rw [toS, if_neg (by omega), List.length_append]; rfl
      rw [rowF_more hv rfl (by show (toK c g F E i (k + 1)).length < s.size; omega) hby (by show _ ≤ (toK c g F E i (k + 1)).length; omega)]
      show Option.map _ (rowF s c ((toK c g F E i (k + 1)).length + 1)) = _
      rw [hnx, row_read hc h10 h13 hE hs hi (n := n) (k := k + 1) (by omega)]
      rfl

/-- Rows that were written are read. -/
theorem rows_read (hc : c ≠ 34) (h10 : c ≠ 10) (h13 : c ≠ 13) (hf : full L g) (hE : endOk E L) (hs : s.data.toList = rowsE c g F E L) : ∀ {n i : Nat}, i + n = L → rowsF s c (rowsE c g F E i).length = some ((List.range' i n).map fun i => (List.range' 0 (g i).len).map (F i))
  | 0, i, h => by
    have hsl : s.data.toList.length = s.size := Array.length_toList
    rw [rowsF_end (by rw [← hsl, hs, show i = L by omega]; exact Nat.le_refl _)]
    rfl
  | n + 1, i, h => by
    have hsl : s.data.toList.length = s.size := Array.length_toList
    have hi : i < L := by omega
    have hlen := hf i hi
    have h0 : (toS c g F E i 0) = rowsE c g F E i := by simp [toS, toK, fieldsL]
    have hrow := row_read (k := 0) (n := (g i).len - 1) hc h10 h13 hE hs hi (by omega)
    rw [h0, show (g i).len - 1 + 1 = (g i).len by omega] at hrow
    obtain ⟨Y, hY, hY0, hnext⟩ := at_end (c := c) (g := g) (F := F) hE hi
    have hsz := congrArg List.length hY
    rw [← hs, hsl, List.length_append] at hsz
    have hdrop : s.data.toList.drop (toK c g F E i (g i).len).length = E i ++ Y := by rw [hs, hY]; simp
    have hnl := congrArg List.length hnext
    rw [List.length_append] at hnl
    -- the row is not empty
    have hne : (rowsE c g F E i).length < (toK c g F E i (g i).len).length := by
      rcases Nat.lt_or_ge 1 (g i).len with h2 | h2
      · have e : (toK c g F E i (g i).len).length = (rowsE c g F E i).length + (fieldsL c (g i).len (F i) (g i).len).length := by rw [toK, List.length_append]
        obtain ⟨X, hX⟩ := fieldsL_pre c (g i).len (F i) (k := 2) (m := (g i).len) h2
        have := congrArg List.length hX
        rw [show (2 : Nat) = 1 + 1 from rfl, fieldsL, if_neg (by decide)] at this
        simp only [List.length_append, List.length_cons, List.length_nil] at this
        omega
      · have h1 : (g i).len = 1 := by omega
        rw [h1, toK_succ, h0, List.length_append, h1]
        have : 0 < (fieldL c (Nat.beq 1 1) (F i 0)).length := by
          cases hn : needsB (F i 0) (Nat.beq 1 1) c with
          | true => rw [fieldL_yes hn]; simp
          | false =>
            rw [fieldL_no hn]
            have hsl2 : (F i 0).data.toList.length = (F i 0).size := Array.length_toList
            rw [hsl2]
            apply Nat.pos_of_ne_zero
            intro e
            have := needsB_iff (s := F i 0) (alone := Nat.beq 1 1) (c := c)
            rw [hn] at this
            exact absurd (this.2 (.inl ⟨rfl, e⟩)) (by decide)
        omega
    have hend : eR s (toK c g F E i (g i).len).length = ⟨ByteArray.mk #[], (rowsE c g F E (i + 1)).length, -1⟩ := by
      unfold eR
      rw [hdrop, hnl]
      rcases hE i hi with h | h | ⟨_, h⟩
      · rw [h]; cases Y <;> simp
      · rw [h]; simp
      · rw [h, hY0 h]; simp
    have hlt : (rowsE c g F E i).length < s.size := by omega
    rw [rowsF_more hlt hrow (by rw [hend]) (by rw [hend]; show _ < (rowsE c g F E (i + 1)).length; omega), hend]
    show Option.map _ (rowsF s c (rowsE c g F E (i + 1)).length) = _
    rw [rows_read hc h10 h13 hf hE hs (n := n) (i := i + 1) (by omega)]
    rfl

end

/-- Rows, as lists. -/
def listR (g : Nat → RW) (F : Nat → Nat → ByteArray) (L : Nat) : List (List ByteArray) := (List.range' 0 L).map fun i => (List.range' 0 (g i).len).map (F i)

theorem listR_get {g : Nat → RW} {F : Nat → Nat → ByteArray} {L i : Nat} (hi : i < L) : (listR g F L).getD i [] = (List.range' 0 (g i).len).map (F i) := by
  unfold listR
  rw [List.getD_eq_getElem?_getD, List.getElem?_map, List.getElem?_range' hi]
  simp
theorem listR_len (g : Nat → RW) (F : Nat → Nat → ByteArray) (L : Nat) : (listR g F L).length = L := by simp [listR]
theorem listR_at {g : Nat → RW} {F : Nat → Nat → ByteArray} {L i j : Nat} (hi : i < L) (hj : j < (g i).len) : atR (listR g F L) i j = F i j := by
  unfold atR
  rw [listR_get hi]
  unfold atS
  rw [List.getElem?_map, List.getElem?_range' hj]
  simp
theorem listR_row {g : Nat → RW} {F : Nat → Nat → ByteArray} {L i : Nat} (hi : i < L) : ((listR g F L).getD i []).length = (g i).len := by rw [listR_get hi]; simp

end Go.Sp

