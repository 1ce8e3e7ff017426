/- Csv: rows that were read. -/
import Derived.Test.YtdokphikobfakaaDoorW
namespace Go.Sp
open Go.Eng Go.Proofs.YtdokphikobfakaaDoor

theorem quotedL_len : ∀ {l t r : List UInt8}, quotedL l = some (t, r) → r.length + 1 ≤ l.length
  | [], t, r, h => by cases h
  | [b], t, r, h => by
    rw [quotedL] at h
    split at h
    · cases h; simp
    · cases h
  | b :: d :: l, t, r, h => by
    rw [quotedL] at h
    split at h
    · split at h
      · cases hq : quotedL l with
        | none => rw [hq] at h; cases h
        | some p => rw [hq] at h; cases h; have := quotedL_len (t := p.1) (r := p.2) hq; simp only [List.length_cons]; omega
      · cases h; simp
    · cases hq : quotedL (d :: l) with
      | none => rw [hq] at h; cases h
      | some p => rw [hq] at h; cases h; have := quotedL_len (t := p.1) (r := p.2) hq; simp only [List.length_cons] at *; omega

/-- What is so of what reading tells. -/
def okR (s : ByteArray) (pos : Nat) (v : FR) : Prop := (v.bad = -1 ∨ (0 ≤ v.bad ∧ v.bad ≤ (s.size : Int))) ∧ pos ≤ v.pos ∧ v.pos ≤ s.size

theorem qR_ok {s : ByteArray} {pos : Nat} (hp : pos ≤ s.size) : okR s pos (qR s pos) := by
  have hs : s.data.toList.length = s.size := Array.length_toList
  cases hq : quotedL (s.data.toList.drop (pos + 1)) with
  | none => rw [qR_none hq]; exact ⟨.inr ⟨by show (0 : Int) ≤ (s.size : Int); omega, Int.le_refl _⟩, Nat.le_refl _, hp⟩
  | some p =>
    obtain ⟨t, r⟩ := p
    rw [qR_some hq]
    have := quotedL_len hq
    rw [List.length_drop, hs] at this
    exact ⟨.inl rfl, by show pos ≤ s.size - r.length; omega, by show s.size - r.length ≤ s.size; omega⟩

theorem tw_len (p : UInt8 → Bool) : ∀ l : List UInt8, (l.takeWhile p).length ≤ l.length
  | [] => Nat.le_refl _
  | b :: l => by
    rw [List.takeWhile_cons]
    split
    · have := tw_len p l; simp only [List.length_cons]; omega
    · simp

theorem pR_ok {s : ByteArray} {pos : Nat} {c : UInt8} (hp : pos ≤ s.size) : okR s pos (pR s pos c) := by
  have hs : s.data.toList.length = s.size := Array.length_toList
  have := tw_len (plainB c) (s.data.toList.drop pos)
  rw [List.length_drop, hs] at this
  unfold pR
  simp only []
  split
  · exact ⟨.inr ⟨by show (0 : Int) ≤ ((pos + _ : Nat) : Int); omega, by show ((pos + _ : Nat) : Int) ≤ _; omega⟩, by show pos ≤ pos + _; omega, by show pos + _ ≤ s.size; omega⟩
  · exact ⟨.inl rfl, by show pos ≤ pos + _; omega, by show pos + _ ≤ s.size; omega⟩

theorem eR_ok {s : ByteArray} {pos : Nat} (hp : pos ≤ s.size) : okR s pos (eR s pos) ∧ ((eR s pos).bad = -1 → pos < (eR s pos).pos ∨ pos = s.size) := by
  have hs : s.data.toList.length = s.size := Array.length_toList
  have hl : (s.data.toList.drop pos).length = s.size - pos := by rw [List.length_drop, hs]
  unfold eR
  match h : s.data.toList.drop pos with
  | [] => rw [h] at hl; simp only [List.length_nil] at hl; exact ⟨⟨.inl rfl, Nat.le_refl _, hp⟩, fun _ => .inr (by omega)⟩
  | [b] =>
    rw [h] at hl; simp only [List.length_cons, List.length_nil] at hl
    simp only []
    split
    · exact ⟨⟨.inl rfl, by show pos ≤ pos + 1; omega, by show pos + 1 ≤ s.size; omega⟩, fun _ => .inl (by show pos < pos + 1; omega)⟩
    · exact ⟨⟨.inr ⟨by show (0 : Int) ≤ (pos : Int); omega, by show (pos : Int) ≤ _; omega⟩, Nat.le_refl _, hp⟩, fun e => absurd e (by show (pos : Int) ≠ -1; omega)⟩
  | b :: d :: m =>
    rw [h] at hl; simp only [List.length_cons] at hl
    simp only []
    split
    · exact ⟨⟨.inl rfl, by show pos ≤ pos + 1; omega, by show pos + 1 ≤ s.size; omega⟩, fun _ => .inl (by show pos < pos + 1; omega)⟩
    · split
      · exact ⟨⟨.inl rfl, by show pos ≤ pos + 2; omega, by show pos + 2 ≤ s.size; omega⟩, fun _ => .inl (by show pos < pos + 2; omega)⟩
      · exact ⟨⟨.inr ⟨by show (0 : Int) ≤ (pos : Int); omega, by show (pos : Int) ≤ _; omega⟩, Nat.le_refl _, hp⟩, fun e => absurd e (by show (pos : Int) ≠ -1; omega)⟩

theorem rowF_bad {s : ByteArray} {c : UInt8} {pos : Nat} {v : FR} (hv : fR s c pos = v) (h : 0 ≤ v.bad) : rowF s c pos = none := by
  rw [rowF, hv, if_pos h]
theorem rowF_more {s : ByteArray} {c : UInt8} {pos : Nat} {v : FR} (hv : fR s c pos = v) (h : v.bad = -1) (h1 : v.pos < s.size) (h2 : s.data.toList[v.pos]? = some c) (h3 : pos ≤ v.pos) : rowF s c pos = (rowF s c (v.pos + 1)).map fun y => (v.t :: y.1, y.2) := by
  rw [rowF, hv, if_neg (by omega), dif_pos ⟨h1, h2, h3⟩]
theorem rowF_end {s : ByteArray} {c : UInt8} {pos : Nat} {v : FR} (hv : fR s c pos = v) (h : v.bad = -1) (h1 : ¬ (v.pos < s.size ∧ s.data.toList[v.pos]? = some c)) : rowF s c pos = some ([v.t], v.pos) := by
  rw [rowF, hv, if_neg (by omega), dif_neg fun h2 => h1 ⟨h2.1, h2.2.1⟩]

theorem rowsF_end {s : ByteArray} {c : UInt8} {pos : Nat} (h : s.size ≤ pos) : rowsF s c pos = some [] := by
  rw [rowsF, if_pos h]
theorem rowsF_none {s : ByteArray} {c : UInt8} {pos : Nat} (h : pos < s.size) (h1 : rowF s c pos = none) : rowsF s c pos = none := by
  rw [rowsF, if_neg (by omega)]
  split
  · rfl
  · rename_i fs q h2; rw [h1] at h2; cases h2
theorem rowsF_bad {s : ByteArray} {c : UInt8} {pos q : Nat} {fs : List ByteArray} (h : pos < s.size) (h1 : rowF s c pos = some (fs, q)) (h2 : 0 ≤ (eR s q).bad) : rowsF s c pos = none := by
  rw [rowsF, if_neg (by omega)]
  split
  · rfl
  · rename_i fs' q' h3
    rw [h1] at h3; cases h3
    rw [dif_neg fun h4 => h4.1 h2]
theorem rowsF_more {s : ByteArray} {c : UInt8} {pos q : Nat} {fs : List ByteArray} (h : pos < s.size) (h1 : rowF s c pos = some (fs, q)) (h2 : (eR s q).bad = -1) (h3 : pos < (eR s q).pos) : rowsF s c pos = (rowsF s c (eR s q).pos).map fun y => fs :: y := by
  rw [rowsF, if_neg (by omega)]
  split
  · rename_i h4; rw [h1] at h4; cases h4
  · rename_i fs' q' h4
    rw [h1] at h4; cases h4
    rw [dif_pos ⟨by omega, h3⟩]

/-- Are there too many rows, or too wide ones? -/
def bigR (rs : List (List ByteArray)) : Prop := 1048576 < rs.length ∨ 16384 < wideN (fun i => ⟨0, 0, (rs.getD i []).length, 0, none⟩) rs.length

theorem wideN_congr {g g' : Nat → RW} : ∀ {L : Nat}, (∀ i, i < L → (g i).len = (g' i).len) → wideN g L = wideN g' L
  | 0, _ => rfl
  | L + 1, h => by
    have := wideN_congr (g := g) (g' := g') (L := L) fun i hi => h i (by omega)
    rw [wideN, wideN, this, h L (by omega)]

end Go.Sp
namespace Go.Eng
open Go.Sp Go.Proofs.YtdokphikobfakaaDoor

/-- What Read tells. -/
def rdO (s : ByteArray) (c : Int) (z : AV) (H' : HH) : Prop :=
  (¬ sepOk c ∧ z = .tup [.v (.slice none 0 0), .v (.int .i64 0), .v (.int .i64 2)]) ∨
  (sepOk c ∧ rowsF s c.toNat.toUInt8 0 = none ∧ ∃ b : Int, 0 ≤ b ∧ b ≤ (s.size : Int) ∧ z = .tup [.v (.slice none 0 0), .v (.int .i64 b), .v (.int .i64 13)]) ∨
  (∃ rs, sepOk c ∧ rowsF s c.toNat.toUInt8 0 = some rs ∧ bigR rs ∧ z = .tup [.v (.slice none 0 0), .v (.int .i64 0), .v (.int .i64 7)]) ∨
  (∃ (rs : List (List ByteArray)) (g : Nat → RW) (a : Option Addr) (n cap : Nat) (S : List Nat), sepOk c ∧ rowsF s c.toNat.toUInt8 0 = some rs ∧ ¬ bigR rs ∧ (∀ i, i < rs.length → (g i).len = (rs.getD i []).length) ∧
    z = .tup [.os 1 a n 0 0 1 rs.length cap, .v (.int .i64 0), .v (.int .i64 0)] ∧ LeH H' [⟨n, .texts 0 rs.length g (atR rs) S false, true⟩])

theorem atS_last (fs : List ByteArray) (t : ByteArray) {j : Nat} (h : j < fs.length + 1) : (if j < fs.length then atS fs j else t) = atS (fs ++ [t]) j := by
  unfold atS
  split
  · rename_i hj; simp [List.getElem?_append_left hj]
  · obtain rfl : j = fs.length := by omega
    simp

/-- A row is there. -/
theorem row_done {H : HH} {b0 : Blk} {nO L cO m cR k : Nat} {a : Option Addr} {G : Nat → SV} {G2 : Nat → ByteArray} {g : Nat → RW} {rs : List (List ByteArray)} {fs : List ByteArray} {SO S2 SR : List Nat}
    (e0 : nth H 0 = some b0) (e1 : nth H 1 = some ⟨nO, .lst 0 (L + 1) [.slcs G] SO (some (cO, 35)), true⟩) (e2 : nth H 2 = some (rP L g (atR rs) S2)) (e6 : nth H 6 = some ⟨m, .lst 0 k [.strs G2] SR (some (cR, 9)), true⟩)
    (hL : L = rs.length) (hk : fs.length = k) (h1 : ∀ i, i < L + 1 → svR (if i < L then g i else ⟨m, 0, k, cR, a⟩) = G i) (h2 : ∀ j, j < k → G2 j = atS fs j) :
    LeH H [b0, oB nO (L + 1) (fun i => if i < L then g i else ⟨m, 0, k, cR, a⟩) SO cO, rP (L + 1) (fun i => if i < L then g i else ⟨m, 0, k, cR, a⟩) (atR (rs ++ [fs])) (S2 ++ SR)] := by
  let e : Blk := rP (L + 1) (fun i => if i < L then g i else ⟨m, 0, k, cR, a⟩) (atR (rs ++ [fs])) (S2 ++ SR)
  have m1 := le_merge (b := rP L g (atR rs) S2) (d := ⟨m, .lst 0 k [.strs G2] SR (some (cR, 9)), true⟩) (e := e) (by rw [← nth_eq]; exact e2) (by rw [← nth_eq]; exact e6) (by decide) (fun k hk => List.mem_append.1 (show k ∈ S2 ++ SR from hk)) (fun _ => ⟨rfl, rfl⟩) fun w g1 g2 => by
    refine ⟨fun k hk => ?_, fun i hi j hj => ?_⟩
    · rcases List.mem_append.1 (show k ∈ S2 ++ SR from hk) with hk | hk
      · exact g1.1 k hk
      · exact g2.1 k hk
    · have hi : i < L + 1 := hi
      by_cases hlt : i < L
      · have hj' : j < (g i).len := by simpa [if_pos hlt] using hj
        obtain ⟨q1, c, ty, fz, q2, q3⟩ := g1.2 i hlt j hj'
        have q1 : (g i).n ∈ S2 := q1
        refine ⟨?_, c, ty, fz, ?_, ?_⟩
        · show (if i < L then g i else _).n ∈ S2 ++ SR
          rw [if_pos hlt]; exact List.mem_append_left _ q1
        · show part_ w (S2 ++ SR) (if i < L then g i else _).n = _
          rw [if_pos hlt]
          have q2 : part_ w S2 (g i).n = some (.cells c ty fz) := q2
          simp only [part_, if_pos q1] at q2
          simp only [part_, if_pos (List.mem_append_left SR q1), q2]
        · show c[(if i < L then g i else _).o + j]? = some (.string (atR (rs ++ [fs]) i j))
          rw [if_pos hlt]
          have : atR (rs ++ [fs]) i j = atR rs i j := by
            unfold atR
            rw [List.getD_eq_getElem?_getD, List.getD_eq_getElem?_getD, List.getElem?_append_left (by omega)]
          rw [this]; exact q3
      · obtain rfl : i = L := by omega
        have hj' : j < k := by simpa [if_neg hlt] using hj
        obtain ⟨q1, c, ty, fz, q2, q3⟩ := g2.2.1 (by omega)
        refine ⟨?_, c.toArray, ty, fz, ?_, ?_⟩
        · show (if i < i then g i else _).n ∈ S2 ++ SR
          rw [if_neg hlt]; exact List.mem_append_right _ q1
        · show part_ w (S2 ++ SR) (if i < i then g i else _).n = _
          rw [if_neg hlt]
          have q2 : w.heap[m]? = some (.cells c.toArray ty fz) := q2
          have q1' : m ∈ S2 ++ SR := List.mem_append_right _ q1
          simp only [part_, if_pos q1', q2]
        · show c.toArray[(if i < i then g i else ⟨m, 0, k, cR, a⟩ : RW).o + j]? = some (.string (atR (rs ++ [fs]) i j))
          rw [if_neg hlt]
          have q3 := q3 j hj' 0 _ rfl
          have e3 : atR (rs ++ [fs]) i j = atS fs j := by
            unfold atR
            rw [List.getD_eq_getElem?_getD, hL, List.getElem?_append_right (Nat.le_refl _)]
            simp
          rw [e3, ← h2 j hj']
          simpa [Col.at, AV.den] using q3
  refine m1.trans (leAt [0, 1, 2] (by decide) ?_)
  have l6 : 6 < H.length := (List.getElem?_eq_some_iff.1 (by rw [← nth_eq]; exact e6)).1
  have f0 : nth ((H.set 2 e).set 6 nilB) 0 = some b0 := by
    rw [nth_eq, List.getElem?_set_ne (by decide), List.getElem?_set_ne (by decide), ← nth_eq]; exact e0
  have f1 : nth ((H.set 2 e).set 6 nilB) 1 = some ⟨nO, .lst 0 (L + 1) [.slcs G] SO (some (cO, 35)), true⟩ := by
    rw [nth_eq, List.getElem?_set_ne (by decide), List.getElem?_set_ne (by decide), ← nth_eq]; exact e1
  have f2 : nth ((H.set 2 e).set 6 nilB) 2 = some e := by
    rw [nth_eq, List.getElem?_set_ne (by decide), List.getElem?_set_self (by omega)]
  simp only [pickH, f0, f1, f2]
  refine ⟨LeB.refl _, LeB.lst rfl (Nat.le_refl _) (fun h => h) (.inr rfl) fun i hi => ?_, LeB.refl _, trivial⟩
  simp only [rowOf, Col.at, h1 i hi]

theorem len_done {rs : List (List ByteArray)} {g : Nat → RW} {m cR : Nat} {a : Option Addr} {fs : List ByteArray} {t : ByteArray} (h : ∀ i, i < rs.length → (g i).len = (rs.getD i []).length) {i : Nat} (hi : i < rs.length + 1) : (if i < rs.length then g i else ⟨m, 0, fs.length + 1, cR, a⟩ : RW).len = ((rs ++ [fs ++ [t]]).getD i []).length := by
  rw [List.getD_eq_getElem?_getD]
  by_cases h2 : i < rs.length
  · rw [if_pos h2, h i h2, List.getElem?_append_left h2, List.getD_eq_getElem?_getD]
  · obtain rfl : i = rs.length := by omega
    rw [if_neg h2, List.getElem?_append_right (Nat.le_refl _)]
    simp

theorem strs_last {fs : List ByteArray} {t : ByteArray} {j : Nat} (h : j < fs.length + 1) : (if j < fs.length then atS fs j else if j < fs.length + 1 then (match asS ((nth [AV.v (Value.string t)] ((0 + (j - fs.length)) * 1 + 0)).getD (AV.v undef)) with | some x => x | none => ByteArray.empty) else ByteArray.empty) = atS (fs ++ [t]) j := by
  rw [← atS_last fs t h]
  split
  · rfl
  · obtain rfl : j = fs.length := by omega
    rw [Nat.sub_self]
    rfl

end Go.Eng
namespace Go.Proofs.YtdokphikobfakaaDoor
open Go Go.Eng Go.Sp
set_option linter.unusedVariables false
set_option linter.unusedSimpArgs false

theorem byte_c {s : ByteArray} {p : Nat} {c : Int} (h0 : 0 ≤ c) (h1 : c ≤ 255) (hp : p < s.size) : (byteAt s p != c) = false ↔ s.data.toList[p]? = some c.toNat.toUInt8 := by
  have hs : s.data.toList.length = s.size := Array.length_toList
  have hb : s.data.toList[p]? = some (s.data.toList[p]'(by omega)) := List.getElem?_eq_getElem _
  have hby : byteAt s p = ((s.data.toList[p]'(by omega)).toNat : Int) := by unfold byteAt; rw [hb]; rfl
  rw [hb, hby, Option.some.injEq, bne_eq_false_iff_eq]
  constructor
  · intro h
    apply UInt8.toNat.inj
    have : (c.toNat.toUInt8).toNat = c.toNat := by simp; omega
    rw [this]; omega
  · intro h
    rw [h]
    have : (c.toNat.toUInt8).toNat = c.toNat := by simp; omega
    rw [this]; omega

end Go.Proofs.YtdokphikobfakaaDoor

namespace Go.Proofs.YtdokphikobfakaaDoor
open Go Go.Eng Go.Sp
set_option linter.unusedVariables false
set_option linter.unusedSimpArgs false

set_option maxRecDepth 20000 in
set_option maxHeartbeats 16000000 in
theorem rd_lc (s : ByteArray) (c : Int) (h0 : 0 ≤ c) (h1 : c ≤ 255) (hs : s.size ≤ 268435456) : LC Tryd.prog 13 [.v (.string s), .v (.int .u8 c)] [] (rdO s c) :=
  rd0_vc s c (by
    refine br_intro (fun c0 => br_intro (fun c1 => br_intro (fun c2 => br_intro (fun c3 => ?_) (fun c3 => ?_)) (fun c2 => ?_)) (fun c1 => ?_)) (fun c0 => ?_)
    · exact .inl ⟨fun h => by simp at c3; exact h.2.2.2 c3, rfl⟩
    rotate_left
    · exact .inl ⟨fun h => by simp at c2; exact h.2.2.1 c2, rfl⟩
    · exact .inl ⟨fun h => by simp at c1; exact h.2.1 c1, rfl⟩
    · exact .inl ⟨fun h => by simp at c0; exact h.1 c0, rfl⟩
    have hsep : sepOk c := by simp at c0 c1 c2 c3; exact ⟨c0, c1, c2, c3⟩
    intro n1
    refine ⟨⟨⟨0, [], fun _ => ⟨0, 0, 0, 0, none⟩, none, 0, 0, [], []⟩, ⟨?_, Nat.zero_le _, Nat.zero_le _, fun i hi => absurd hi (Nat.not_lt_zero _), fun _ => .inl rfl⟩, ⟨rfl, rfl, rfl, trivial⟩, ?_⟩, fun x hx => ?_⟩
    · cases rowsF s c.toNat.toUInt8 0 <;> rfl
    · refine LeH.trans (H1 := [rdB n1 s 0 c (-1) true, oB 0 0 (fun _ => ⟨0, 0, 0, 0, none⟩) [] 0]) (LeH.more rfl fun w => lst_nil (.inr ⟨_, rfl, rfl⟩)) (LeH.more rfl fun w => ⟨fun k hk => (by cases hk), fun i hi => absurd hi (Nat.not_lt_zero _)⟩)
    obtain ⟨x1, x2, x3, x4, x5⟩ := hx
    repeat refine And.intro rfl ?_
    refine br_intro (fun hlt => ?_) (fun hge => ?_)
    rotate_left
    · -- all is read
      have hend : s.size ≤ x.pos := by have := of_decide_eq_false hge; omega
      have hall : rowsF s c.toNat.toUInt8 0 = some x.rs := by rw [x1, rowsF_end hend]; simp
      have hwc : wideN x.g x.rs.length = wideN (fun i => ⟨0, 0, (x.rs.getD i []).length, 0, none⟩) x.rs.length := wideN_congr fun i hi => x4 i hi
      refine br_intro (fun hb => ?_) (fun hb => ?_)
      · exact .inr (.inr (.inl ⟨x.rs, hsep, hall, .inl (by have := of_decide_eq_true hb; omega), rfl⟩))
      · refine ⟨x.g, atR x.rs, x.S, x.S2, x.cap, rfl, rfl, by omega, br_intro (fun hw => ?_) (fun hw => ?_)⟩
        · exact .inr (.inr (.inl ⟨x.rs, hsep, hall, .inr (by have := of_decide_eq_true hw; omega), rfl⟩))
        · refine .inr (.inr (.inr ⟨x.rs, x.g, x.a, x.n, x.cap, x.S ++ x.S2, hsep, hall, ?_, x4, rfl, le_texts rfl rfl⟩))
          have := of_decide_eq_false hb
          have := of_decide_eq_false hw
          rintro (h | h) <;> omega
    have hlt : x.pos < s.size := by have := of_decide_eq_true hlt; omega
    intro n4 n5 n6
    refine ⟨⟨⟨x.pos, [], none, 0, 0, []⟩, ⟨?_, x2, Nat.le_refl _, Nat.zero_le _, fun _ => .inl rfl⟩, ⟨rfl, rfl, trivial⟩, ?_⟩, fun y hy => ?_⟩
    · show rowF s c.toNat.toUInt8 x.pos = Option.map _ (rowF s c.toNat.toUInt8 x.pos)
      cases rowF s c.toNat.toUInt8 x.pos <;> simp
    · exact LeH.trans (LeH.more (b := ⟨0, .lst 0 0 [.strs (atS [])] [] (some (0, 9)), true⟩) rfl fun w => lst_nil (.inr ⟨_, rfl, rfl⟩)) (leAt [0, 1, 2, 3, 4, 5, 6] (by decide) ⟨LeB.refl _, LeB.refl _, LeB.refl _, LeB.cells rfl (fun h => h), LeB.refl _, LeB.refl _, LeB.refl _, trivial⟩)
    obtain ⟨y1, y2, y3, y4, y5⟩ := hy
    have y1 : rowF s c.toNat.toUInt8 x.pos = Option.map (fun z => (y.fs ++ z.1, z.2)) (rowF s c.toNat.toUInt8 y.pos) := y1
    have y3 : x.pos ≤ y.pos := y3
    have hsl : s.data.toList.length = s.size := Array.length_toList
    repeat refine And.intro rfl ?_
    refine ⟨⟨by omega, by omega⟩, Nat.le_refl _, ?_⟩
    rw [Int.toNat_natCast, toList_subE]
    refine br_intro (fun hq => ?_) (fun hp => ?_)
    · have hv : fR s c.toNat.toUInt8 y.pos = (qR s y.pos) := by unfold fR; rw [if_pos (pre_head.1 hq)]
      repeat refine And.intro rfl ?_
      refine ⟨s, y.pos, c, rfl, (Nat.lt_of_not_le fun h => by have hh := pre_head.1 hq; rw [List.drop_of_length_le (by omega)] at hh; cases hh), by omega, ?_⟩
      obtain ⟨f1, f2, f3⟩ := qR_ok (s := s) (pos := y.pos) y2
      have rowEnd : (qR s y.pos).bad = -1 → ¬ ((qR s y.pos).pos < s.size ∧ s.data.toList[(qR s y.pos).pos]? = some c.toNat.toUInt8) → rowF s c.toNat.toUInt8 x.pos = some (y.fs ++ [(qR s y.pos).t], (qR s y.pos).pos) := fun g1 g2 => by
        rw [y1, rowF_end hv g1 g2]; rfl
      obtain ⟨⟨w1, w2, w3⟩, w4⟩ := eR_ok (s := s) (pos := (qR s y.pos).pos) f3
      have hlR : (x.rs ++ [y.fs ++ [(qR s y.pos).t]]).length = x.rs.length + 1 := by simp
      have hlf : (y.fs ++ [(qR s y.pos).t]).length = y.fs.length + 1 := by simp
      repeat refine And.intro rfl ?_
      refine br_intro (fun hb => ?_) (fun hb => ?_)
      · have hb := of_decide_eq_true hb
        repeat refine And.intro rfl ?_
        refine br_intro (fun hb2 => absurd (of_decide_eq_true hb2) (by omega)) (fun _ => ?_)
        repeat refine And.intro rfl ?_
        refine br_intro (fun _ => ?_) (fun hb3 => absurd hb (of_decide_eq_false hb3))
        repeat refine And.intro rfl ?_
        refine .inr (.inl ⟨hsep, ?_, (qR s y.pos).bad, hb, by omega, rfl⟩)
        rw [x1, rowsF_none hlt (by rw [y1, rowF_bad hv hb]; rfl)]; rfl
      · have hb := of_decide_eq_false hb
        have hb1 : (qR s y.pos).bad = -1 := by omega
        repeat refine And.intro rfl ?_
        intro n12
        repeat refine And.intro rfl ?_
        refine ⟨Nat.le_refl _, rfl, y5, ⟨by omega, by omega⟩, fun a' n14 n15 S' g1 g2 => ?_⟩
        repeat refine And.intro rfl ?_
        refine br_intro (fun he => ?_) (fun he => ?_)
        · have hpe : (qR s y.pos).pos = s.size := by have := eq_of_beq he; omega
          have hno : ¬ ((qR s y.pos).pos < s.size ∧ s.data.toList[(qR s y.pos).pos]? = some c.toNat.toUInt8) := fun h => by omega
          repeat refine And.intro rfl ?_
          refine br_intro (fun _ => ⟨s, (qR s y.pos).pos, c, by rw [hb1], f3, by omega, ?_⟩) (fun hb2 => absurd (of_decide_eq_false hb2) (by omega))
          repeat refine And.intro rfl ?_
          refine br_intro (fun hx => ?_) (fun hx => ?_)
          · have hx := of_decide_eq_true hx
            repeat refine And.intro rfl ?_
            refine .inr (.inl ⟨hsep, ?_, (eR s (qR s y.pos).pos).bad, hx, by omega, rfl⟩)
            rw [x1, rowsF_bad hlt (rowEnd hb1 hno) hx]; rfl
          · have hx := of_decide_eq_false hx
            have hx1 : (eR s (qR s y.pos).pos).bad = -1 := by omega
            have hadv : x.pos < (eR s (qR s y.pos).pos).pos := by rcases w4 hx1 with h | h <;> omega
            repeat refine And.intro rfl ?_
            intro n22
            repeat refine And.intro rfl ?_
            refine ⟨Nat.le_refl _, rfl, x5, ⟨by omega, by omega⟩, fun b' n24 n25 SO g3 g4 => ⟨⟨(eR s (qR s y.pos).pos).pos, x.rs ++ [y.fs ++ [(qR s y.pos).t]], fun i => if i < x.rs.length then x.g i else ⟨n14, 0, y.fs.length + 1, n15, a'⟩, b', n24, n25, SO, x.S2 ++ S'⟩, ⟨?_, w3, ?_, fun i hi => ?_, ?_⟩, ?_, ⟨?_, rfl, rfl, trivial⟩, ?_⟩⟩
            · rw [x1, rowsF_more hlt (rowEnd hb1 hno) hx1 hadv, Option.map_map]
              congr 1; funext z; simp
            · show (x.rs ++ [y.fs ++ [(qR s y.pos).t]]).length ≤ (eR s (qR s y.pos).pos).pos
              rw [hlR]; omega
            · have hi : i < (x.rs ++ [y.fs ++ [(qR s y.pos).t]]).length := hi
              rw [hlR] at hi
              exact len_done x4 hi
            · show emptyOk b' n24 (x.rs ++ [y.fs ++ [(qR s y.pos).t]]).length n25
              rw [hlR]; exact g4
            · show s.size - (eR s (qR s y.pos).pos).pos < _
              omega
            · exact os_den hlR.symm
            · dsimp only
              rw [hlR]
              refine (row_done (rs := x.rs) (fs := y.fs ++ [(qR s y.pos).t]) (g := x.g) (L := x.rs.length) (k := y.fs.length + 1) (a := a') rfl rfl rfl rfl rfl (by simp) (fun i hi => ?_) (fun j hj => strs_last hj)).trans (leAt [0, 1, 2] (by decide) ⟨LeB.cells (by rw [hx1]) (fun h => h), LeB.refl _, LeB.refl _, trivial⟩)
              by_cases hi2 : i < x.rs.length
              · simp only [if_pos hi2]
              · obtain rfl : i = x.rs.length := by omega
                simp only [if_neg (Nat.lt_irrefl _), if_pos (Nat.lt_succ_self _), Nat.sub_self]
                rfl
        · have hpe : (qR s y.pos).pos < s.size := by have := beq_eq_false_iff_ne.1 he; omega
          repeat refine And.intro rfl ?_
          refine ⟨⟨by omega, by omega⟩, ?_⟩
          repeat refine And.intro rfl ?_
          rw [Int.toNat_natCast]
          refine br_intro (fun hc => ?_) (fun hc => ?_)
          · have hno : ¬ ((qR s y.pos).pos < s.size ∧ s.data.toList[(qR s y.pos).pos]? = some c.toNat.toUInt8) := fun h => by
              rw [(byte_c h0 h1 hpe).2 h.2] at hc; cases hc
            repeat refine And.intro rfl ?_
            refine br_intro (fun _ => ⟨s, (qR s y.pos).pos, c, by rw [hb1], f3, by omega, ?_⟩) (fun hb2 => absurd (of_decide_eq_false hb2) (by omega))
            repeat refine And.intro rfl ?_
            refine br_intro (fun hx => ?_) (fun hx => ?_)
            · have hx := of_decide_eq_true hx
              repeat refine And.intro rfl ?_
              refine .inr (.inl ⟨hsep, ?_, (eR s (qR s y.pos).pos).bad, hx, by omega, rfl⟩)
              rw [x1, rowsF_bad hlt (rowEnd hb1 hno) hx]; rfl
            · have hx := of_decide_eq_false hx
              have hx1 : (eR s (qR s y.pos).pos).bad = -1 := by omega
              have hadv : x.pos < (eR s (qR s y.pos).pos).pos := by rcases w4 hx1 with h | h <;> omega
              repeat refine And.intro rfl ?_
              intro n22
              repeat refine And.intro rfl ?_
              refine ⟨Nat.le_refl _, rfl, x5, ⟨by omega, by omega⟩, fun b' n24 n25 SO g3 g4 => ⟨⟨(eR s (qR s y.pos).pos).pos, x.rs ++ [y.fs ++ [(qR s y.pos).t]], fun i => if i < x.rs.length then x.g i else ⟨n14, 0, y.fs.length + 1, n15, a'⟩, b', n24, n25, SO, x.S2 ++ S'⟩, ⟨?_, w3, ?_, fun i hi => ?_, ?_⟩, ?_, ⟨?_, rfl, rfl, trivial⟩, ?_⟩⟩
              · rw [x1, rowsF_more hlt (rowEnd hb1 hno) hx1 hadv, Option.map_map]
                congr 1; funext z; simp
              · show (x.rs ++ [y.fs ++ [(qR s y.pos).t]]).length ≤ (eR s (qR s y.pos).pos).pos
                rw [hlR]; omega
              · have hi : i < (x.rs ++ [y.fs ++ [(qR s y.pos).t]]).length := hi
                rw [hlR] at hi
                exact len_done x4 hi
              · show emptyOk b' n24 (x.rs ++ [y.fs ++ [(qR s y.pos).t]]).length n25
                rw [hlR]; exact g4
              · show s.size - (eR s (qR s y.pos).pos).pos < _
                omega
              · exact os_den hlR.symm
              · dsimp only
                rw [hlR]
                refine (row_done (rs := x.rs) (fs := y.fs ++ [(qR s y.pos).t]) (g := x.g) (L := x.rs.length) (k := y.fs.length + 1) (a := a') rfl rfl rfl rfl rfl (by simp) (fun i hi => ?_) (fun j hj => strs_last hj)).trans (leAt [0, 1, 2] (by decide) ⟨LeB.cells (by rw [hx1]) (fun h => h), LeB.refl _, LeB.refl _, trivial⟩)
                by_cases hi2 : i < x.rs.length
                · simp only [if_pos hi2]
                · obtain rfl : i = x.rs.length := by omega
                  simp only [if_neg (Nat.lt_irrefl _), if_pos (Nat.lt_succ_self _), Nat.sub_self]
                  rfl
          · have hyes := (byte_c h0 h1 hpe).1 hc
            repeat refine And.intro rfl ?_
            refine ⟨⟨(qR s y.pos).pos + 1, y.fs ++ [(qR s y.pos).t], a', n14, n15, S'⟩, ⟨?_, hpe, by show x.pos ≤ (qR s y.pos).pos + 1; omega, ?_, ?_⟩, ?_, ⟨rfl, rfl, trivial⟩, ?_⟩
            · show rowF s c.toNat.toUInt8 x.pos = _
              rw [y1, rowF_more hv hb1 hpe hyes f2, Option.map_map]
              congr 1; funext z; simp
            · show (y.fs ++ [(qR s y.pos).t]).length ≤ (qR s y.pos).pos + 1
              rw [hlf]; omega
            · show emptyOk a' n14 (y.fs ++ [(qR s y.pos).t]).length n15
              rw [hlf]; exact g2
            · show s.size - ((qR s y.pos).pos + 1) < s.size - y.pos
              omega
            · dsimp only
              rw [hlf]
              exact leAt [0, 1, 2, 3, 4, 5, 6] (by decide) ⟨LeB.cells (by rw [hb1, w64 (by omega)]; rfl) (fun h => h), LeB.refl _, LeB.refl _, LeB.refl _, LeB.refl _, LeB.refl _, LeB.strs (Nat.le_refl _) (fun h => h) (.inr rfl) (fun j hj => (strs_last hj).symm), trivial⟩
    · have hv : fR s c.toNat.toUInt8 y.pos = (pR s y.pos c.toNat.toUInt8) := by unfold fR; rw [if_neg (fun h => by rw [pre_head.2 h] at hp; cases hp)]
      repeat refine And.intro rfl ?_
      refine ⟨s, y.pos, c, rfl, y2, by omega, ?_⟩
      obtain ⟨f1, f2, f3⟩ := pR_ok (s := s) (pos := y.pos) (c := c.toNat.toUInt8) y2
      have rowEnd : (pR s y.pos c.toNat.toUInt8).bad = -1 → ¬ ((pR s y.pos c.toNat.toUInt8).pos < s.size ∧ s.data.toList[(pR s y.pos c.toNat.toUInt8).pos]? = some c.toNat.toUInt8) → rowF s c.toNat.toUInt8 x.pos = some (y.fs ++ [(pR s y.pos c.toNat.toUInt8).t], (pR s y.pos c.toNat.toUInt8).pos) := fun g1 g2 => by
        rw [y1, rowF_end hv g1 g2]; rfl
      obtain ⟨⟨w1, w2, w3⟩, w4⟩ := eR_ok (s := s) (pos := (pR s y.pos c.toNat.toUInt8).pos) f3
      have hlR : (x.rs ++ [y.fs ++ [(pR s y.pos c.toNat.toUInt8).t]]).length = x.rs.length + 1 := by simp
      have hlf : (y.fs ++ [(pR s y.pos c.toNat.toUInt8).t]).length = y.fs.length + 1 := by simp
      repeat refine And.intro rfl ?_
      refine br_intro (fun hb => ?_) (fun hb => ?_)
      · have hb := of_decide_eq_true hb
        repeat refine And.intro rfl ?_
        refine br_intro (fun hb2 => absurd (of_decide_eq_true hb2) (by omega)) (fun _ => ?_)
        repeat refine And.intro rfl ?_
        refine br_intro (fun _ => ?_) (fun hb3 => absurd hb (of_decide_eq_false hb3))
        repeat refine And.intro rfl ?_
        refine .inr (.inl ⟨hsep, ?_, (pR s y.pos c.toNat.toUInt8).bad, hb, by omega, rfl⟩)
        rw [x1, rowsF_none hlt (by rw [y1, rowF_bad hv hb]; rfl)]; rfl
      · have hb := of_decide_eq_false hb
        have hb1 : (pR s y.pos c.toNat.toUInt8).bad = -1 := by omega
        repeat refine And.intro rfl ?_
        intro n12
        repeat refine And.intro rfl ?_
        refine ⟨Nat.le_refl _, rfl, y5, ⟨by omega, by omega⟩, fun a' n14 n15 S' g1 g2 => ?_⟩
        repeat refine And.intro rfl ?_
        refine br_intro (fun he => ?_) (fun he => ?_)
        · have hpe : (pR s y.pos c.toNat.toUInt8).pos = s.size := by have := eq_of_beq he; omega
          have hno : ¬ ((pR s y.pos c.toNat.toUInt8).pos < s.size ∧ s.data.toList[(pR s y.pos c.toNat.toUInt8).pos]? = some c.toNat.toUInt8) := fun h => by omega
          repeat refine And.intro rfl ?_
          refine br_intro (fun _ => ⟨s, (pR s y.pos c.toNat.toUInt8).pos, c, by rw [hb1], f3, by omega, ?_⟩) (fun hb2 => absurd (of_decide_eq_false hb2) (by omega))
          repeat refine And.intro rfl ?_
          refine br_intro (fun hx => ?_) (fun hx => ?_)
          · have hx := of_decide_eq_true hx
            repeat refine And.intro rfl ?_
            refine .inr (.inl ⟨hsep, ?_, (eR s (pR s y.pos c.toNat.toUInt8).pos).bad, hx, by omega, rfl⟩)
            rw [x1, rowsF_bad hlt (rowEnd hb1 hno) hx]; rfl
          · have hx := of_decide_eq_false hx
            have hx1 : (eR s (pR s y.pos c.toNat.toUInt8).pos).bad = -1 := by omega
            have hadv : x.pos < (eR s (pR s y.pos c.toNat.toUInt8).pos).pos := by rcases w4 hx1 with h | h <;> omega
            repeat refine And.intro rfl ?_
            intro n22
            repeat refine And.intro rfl ?_
            refine ⟨Nat.le_refl _, rfl, x5, ⟨by omega, by omega⟩, fun b' n24 n25 SO g3 g4 => ⟨⟨(eR s (pR s y.pos c.toNat.toUInt8).pos).pos, x.rs ++ [y.fs ++ [(pR s y.pos c.toNat.toUInt8).t]], fun i => if i < x.rs.length then x.g i else ⟨n14, 0, y.fs.length + 1, n15, a'⟩, b', n24, n25, SO, x.S2 ++ S'⟩, ⟨?_, w3, ?_, fun i hi => ?_, ?_⟩, ?_, ⟨?_, rfl, rfl, trivial⟩, ?_⟩⟩
            · rw [x1, rowsF_more hlt (rowEnd hb1 hno) hx1 hadv, Option.map_map]
              congr 1; funext z; simp
            · show (x.rs ++ [y.fs ++ [(pR s y.pos c.toNat.toUInt8).t]]).length ≤ (eR s (pR s y.pos c.toNat.toUInt8).pos).pos
              rw [hlR]; omega
            · have hi : i < (x.rs ++ [y.fs ++ [(pR s y.pos c.toNat.toUInt8).t]]).length := hi
              rw [hlR] at hi
              exact len_done x4 hi
            · show emptyOk b' n24 (x.rs ++ [y.fs ++ [(pR s y.pos c.toNat.toUInt8).t]]).length n25
              rw [hlR]; exact g4
            · show s.size - (eR s (pR s y.pos c.toNat.toUInt8).pos).pos < _
              omega
            · exact os_den hlR.symm
            · dsimp only
              rw [hlR]
              refine (row_done (rs := x.rs) (fs := y.fs ++ [(pR s y.pos c.toNat.toUInt8).t]) (g := x.g) (L := x.rs.length) (k := y.fs.length + 1) (a := a') rfl rfl rfl rfl rfl (by simp) (fun i hi => ?_) (fun j hj => strs_last hj)).trans (leAt [0, 1, 2] (by decide) ⟨LeB.cells (by rw [hx1]) (fun h => h), LeB.refl _, LeB.refl _, trivial⟩)
              by_cases hi2 : i < x.rs.length
              · simp only [if_pos hi2]
              · obtain rfl : i = x.rs.length := by omega
                simp only [if_neg (Nat.lt_irrefl _), if_pos (Nat.lt_succ_self _), Nat.sub_self]
                rfl
        · have hpe : (pR s y.pos c.toNat.toUInt8).pos < s.size := by have := beq_eq_false_iff_ne.1 he; omega
          repeat refine And.intro rfl ?_
          refine ⟨⟨by omega, by omega⟩, ?_⟩
          repeat refine And.intro rfl ?_
          rw [Int.toNat_natCast]
          refine br_intro (fun hc => ?_) (fun hc => ?_)
          · have hno : ¬ ((pR s y.pos c.toNat.toUInt8).pos < s.size ∧ s.data.toList[(pR s y.pos c.toNat.toUInt8).pos]? = some c.toNat.toUInt8) := fun h => by
              rw [(byte_c h0 h1 hpe).2 h.2] at hc; cases hc
            repeat refine And.intro rfl ?_
            refine br_intro (fun _ => ⟨s, (pR s y.pos c.toNat.toUInt8).pos, c, by rw [hb1], f3, by omega, ?_⟩) (fun hb2 => absurd (of_decide_eq_false hb2) (by omega))
            repeat refine And.intro rfl ?_
            refine br_intro (fun hx => ?_) (fun hx => ?_)
            · have hx := of_decide_eq_true hx
              repeat refine And.intro rfl ?_
              refine .inr (.inl ⟨hsep, ?_, (eR s (pR s y.pos c.toNat.toUInt8).pos).bad, hx, by omega, rfl⟩)
              rw [x1, rowsF_bad hlt (rowEnd hb1 hno) hx]; rfl
            · have hx := of_decide_eq_false hx
              have hx1 : (eR s (pR s y.pos c.toNat.toUInt8).pos).bad = -1 := by omega
              have hadv : x.pos < (eR s (pR s y.pos c.toNat.toUInt8).pos).pos := by rcases w4 hx1 with h | h <;> omega
              repeat refine And.intro rfl ?_
              intro n22
              repeat refine And.intro rfl ?_
              refine ⟨Nat.le_refl _, rfl, x5, ⟨by omega, by omega⟩, fun b' n24 n25 SO g3 g4 => ⟨⟨(eR s (pR s y.pos c.toNat.toUInt8).pos).pos, x.rs ++ [y.fs ++ [(pR s y.pos c.toNat.toUInt8).t]], fun i => if i < x.rs.length then x.g i else ⟨n14, 0, y.fs.length + 1, n15, a'⟩, b', n24, n25, SO, x.S2 ++ S'⟩, ⟨?_, w3, ?_, fun i hi => ?_, ?_⟩, ?_, ⟨?_, rfl, rfl, trivial⟩, ?_⟩⟩
              · rw [x1, rowsF_more hlt (rowEnd hb1 hno) hx1 hadv, Option.map_map]
                congr 1; funext z; simp
              · show (x.rs ++ [y.fs ++ [(pR s y.pos c.toNat.toUInt8).t]]).length ≤ (eR s (pR s y.pos c.toNat.toUInt8).pos).pos
                rw [hlR]; omega
              · have hi : i < (x.rs ++ [y.fs ++ [(pR s y.pos c.toNat.toUInt8).t]]).length := hi
                rw [hlR] at hi
                exact len_done x4 hi
              · show emptyOk b' n24 (x.rs ++ [y.fs ++ [(pR s y.pos c.toNat.toUInt8).t]]).length n25
                rw [hlR]; exact g4
              · show s.size - (eR s (pR s y.pos c.toNat.toUInt8).pos).pos < _
                omega
              · exact os_den hlR.symm
              · dsimp only
                rw [hlR]
                refine (row_done (rs := x.rs) (fs := y.fs ++ [(pR s y.pos c.toNat.toUInt8).t]) (g := x.g) (L := x.rs.length) (k := y.fs.length + 1) (a := a') rfl rfl rfl rfl rfl (by simp) (fun i hi => ?_) (fun j hj => strs_last hj)).trans (leAt [0, 1, 2] (by decide) ⟨LeB.cells (by rw [hx1]) (fun h => h), LeB.refl _, LeB.refl _, trivial⟩)
                by_cases hi2 : i < x.rs.length
                · simp only [if_pos hi2]
                · obtain rfl : i = x.rs.length := by omega
                  simp only [if_neg (Nat.lt_irrefl _), if_pos (Nat.lt_succ_self _), Nat.sub_self]
                  rfl
          · have hyes := (byte_c h0 h1 hpe).1 hc
            repeat refine And.intro rfl ?_
            refine ⟨⟨(pR s y.pos c.toNat.toUInt8).pos + 1, y.fs ++ [(pR s y.pos c.toNat.toUInt8).t], a', n14, n15, S'⟩, ⟨?_, hpe, by show x.pos ≤ (pR s y.pos c.toNat.toUInt8).pos + 1; omega, ?_, ?_⟩, ?_, ⟨rfl, rfl, trivial⟩, ?_⟩
            · show rowF s c.toNat.toUInt8 x.pos = _
              rw [y1, rowF_more hv hb1 hpe hyes f2, Option.map_map]
              congr 1; funext z; simp
            · show (y.fs ++ [(pR s y.pos c.toNat.toUInt8).t]).length ≤ (pR s y.pos c.toNat.toUInt8).pos + 1
              rw [hlf]; omega
            · show emptyOk a' n14 (y.fs ++ [(pR s y.pos c.toNat.toUInt8).t]).length n15
              rw [hlf]; exact g2
            · show s.size - ((pR s y.pos c.toNat.toUInt8).pos + 1) < s.size - y.pos
              omega
            · dsimp only
              rw [hlf]
              exact leAt [0, 1, 2, 3, 4, 5, 6] (by decide) ⟨LeB.cells (by rw [hb1, w64 (by omega)]; rfl) (fun h => h), LeB.refl _, LeB.refl _, LeB.refl _, LeB.refl _, LeB.refl _, LeB.strs (Nat.le_refl _) (fun h => h) (.inr rfl) (fun j hj => (strs_last hj).symm), trivial⟩)

end Go.Proofs.YtdokphikobfakaaDoor

