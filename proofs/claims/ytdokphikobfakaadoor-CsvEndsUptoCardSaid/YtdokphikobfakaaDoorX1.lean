/- Csv: rows that were read. -/
import Derived.Test.YtdokphikobfakaaDoorW
namespace Go.Sp
open Go.Eng Go.Proofs.YtdokphikobfakaaDoor

theorem quotedL_len : ∀ {l t r : List UInt8}, quotedL l = some (t, r) → r.length + 1 ≤ l.length
  | [], t, r, h => by cases h
  | [b], t, r, h => by
    rw [quotedL] at h
    split at h
    · cases h; simp
    · cases h
  | b :: d :: l, t, r, h => by
    rw [quotedL] at h
    split at h
    · split at h
      · cases hq : quotedL l with
        | none => rw [hq] at h; cases h
        | some p => rw [hq] at h; cases h; have := quotedL_len (t := p.1) (r := p.2) hq; simp only [List.length_cons]; omega
      · cases h; simp
    · cases hq : quotedL (d :: l) with
      | none => rw [hq] at h; cases h
      | some p => rw [hq] at h; cases h; have := quotedL_len (t := p.1) (r := p.2) hq; simp only [List.length_cons] at *; omega

/-- What is so of what reading tells. -/
def okR (s : ByteArray) (pos : Nat) (v : FR) : Prop := (v.bad = -1 ∨ (0 ≤ v.bad ∧ v.bad ≤ (s.size : Int))) ∧ pos ≤ v.pos ∧ v.pos ≤ s.size

theorem qR_ok {s : ByteArray} {pos : Nat} (hp : pos ≤ s.size) : okR s pos (qR s pos) := by
  have hs : s.data.toList.length = s.size := Array.length_toList
  cases hq : quotedL (s.data.toList.drop (pos + 1)) with
  | none => rw [qR_none hq]; exact ⟨.inr ⟨by show (0 : Int) ≤ (s.size : Int); omega, Int.le_refl _⟩, Nat.le_refl _, hp⟩
  | some p =>
    obtain ⟨t, r⟩ := p
    rw [qR_some hq]
    have := quotedL_len hq
    rw [List.length_drop, hs] at this
    exact ⟨.inl rfl, by show pos ≤ s.size - r.length; omega, by show s.size - r.length ≤ s.size; omega⟩

theorem tw_len (p : UInt8 → Bool) : ∀ l : List UInt8, (l.takeWhile p).length ≤ l.length
  | [] => Nat.le_refl _
  | b :: l => by
    rw [List.takeWhile_cons]
    split
    · have := tw_len p l; simp only [List.length_cons]; omega
    · simp

theorem pR_ok {s : ByteArray} {pos : Nat} {c : UInt8} (hp : pos ≤ s.size) : okR s pos (pR s pos c) := by
  have hs : s.data.toList.length = s.size := Array.length_toList
  have := tw_len (plainB c) (s.data.toList.drop pos)
  rw [List.length_drop, hs] at this
  unfold pR
  simp only []
  split
  · exact ⟨.inr ⟨by show (0 : Int) ≤ ((pos + _ : Nat) : Int); omega, by show ((pos + _ : Nat) : Int) ≤ _; omega⟩, by show pos ≤ pos + _; omega, by show pos + _ ≤ s.size; omega⟩
  · exact ⟨.inl rfl, by show pos ≤ pos + _; omega, by show pos + _ ≤ s.size; omega⟩

theorem eR_ok {s : ByteArray} {pos : Nat} (hp : pos ≤ s.size) : okR s pos (eR s pos) ∧ ((eR s pos).bad = -1 → pos < (eR s pos).pos ∨ pos = s.size) := by
  have hs : s.data.toList.length = s.size := Array.length_toList
  have hl : (s.data.toList.drop pos).length = s.size - pos := by rw [List.length_drop, hs]
  unfold eR
  match h : s.data.toList.drop pos with
  | [] => rw [h] at hl; simp only [List.length_nil] at hl; exact ⟨⟨.inl rfl, Nat.le_refl _, hp⟩, fun _ => .inr (by omega)⟩
  | [b] =>
    rw [h] at hl; simp only [List.length_cons, List.length_nil] at hl
    simp only []
    split
    · exact ⟨⟨.inl rfl, by show pos ≤ pos + 1; omega, by show pos + 1 ≤ s.size; omega⟩, fun _ => .inl (by show pos < pos + 1; omega)⟩
    · exact ⟨⟨.inr ⟨by show (0 : Int) ≤ (pos : Int); omega, by show (pos : Int) ≤ _; omega⟩, Nat.le_refl _, hp⟩, fun e => absurd e (by show (pos : Int) ≠ -1; omega)⟩
  | b :: d :: m =>
    rw [h] at hl; simp only [List.length_cons] at hl
    simp only []
    split
    · exact ⟨⟨.inl rfl, by show pos ≤ pos + 1; omega, by show pos + 1 ≤ s.size; omega⟩, fun _ => .inl (by show pos < pos + 1; omega)⟩
    · split
      · exact ⟨⟨.inl rfl, by show pos ≤ pos + 2; omega, by show pos + 2 ≤ s.size; omega⟩, fun _ => .inl (by show pos < pos + 2; omega)⟩
      · exact ⟨⟨.inr ⟨by show (0 : Int) ≤ (pos : Int); omega, by show (pos : Int) ≤ _; omega⟩, Nat.le_refl _, hp⟩, fun e => absurd e (by show (pos : Int) ≠ -1; omega)⟩

theorem rowF_bad {s : ByteArray} {c : UInt8} {pos : Nat} {v : FR} (hv : fR s c pos = v) (h : 0 ≤ v.bad) : rowF s c pos = none := by
  rw [rowF, hv, if_pos h]
theorem rowF_more {s : ByteArray} {c : UInt8} {pos : Nat} {v : FR} (hv : fR s c pos = v) (h : v.bad = -1) (h1 : v.pos < s.size) (h2 : s.data.toList[v.pos]? = some c) (h3 : pos ≤ v.pos) : rowF s c pos = (rowF s c (v.pos + 1)).map fun y => (v.t :: y.1, y.2) := by
  rw [rowF, hv, if_neg (by omega), dif_pos ⟨h1, h2, h3⟩]
theorem rowF_end {s : ByteArray} {c : UInt8} {pos : Nat} {v : FR} (hv : fR s c pos = v) (h : v.bad = -1) (h1 : ¬ (v.pos < s.size ∧ s.data.toList[v.pos]? = some c)) : rowF s c pos = some ([v.t], v.pos) := by
  rw [rowF, hv, if_neg (by omega), dif_neg fun h2 => h1 ⟨h2.1, h2.2.1⟩]

theorem rowsF_end {s : ByteArray} {c : UInt8} {pos : Nat} (h : s.size ≤ pos) : rowsF s c pos = some [] := by
  rw [rowsF, if_pos h]
theorem rowsF_none {s : ByteArray} {c : UInt8} {pos : Nat} (h : pos < s.size) (h1 : rowF s c pos = none) : rowsF s c pos = none := by
  rw [rowsF, if_neg (by omega)]
  split
  · rfl
  · rename_i fs q h2; rw [h1] at h2; cases h2
theorem rowsF_bad {s : ByteArray} {c : UInt8} {pos q : Nat} {fs : List ByteArray} (h : pos < s.size) (h1 : rowF s c pos = some (fs, q)) (h2 : 0 ≤ (eR s q).bad) : rowsF s c pos = none := by
  rw [rowsF, if_neg (by omega)]
  split
  · rfl
  · rename_i fs' q' h3
    rw [h1] at h3; cases h3
    rw [dif_neg fun h4 => h4.1 h2]
theorem rowsF_more {s : ByteArray} {c : UInt8} {pos q : Nat} {fs : List ByteArray} (h : pos < s.size) (h1 : rowF s c pos = some (fs, q)) (h2 : (eR s q).bad = -1) (h3 : pos < (eR s q).pos) : rowsF s c pos = (rowsF s c (eR s q).pos).map fun y => fs :: y := by
  rw [rowsF, if_neg (by omega)]
  split
  · rename_i h4; rw [h1] at h4; cases h4
  · rename_i fs' q' h4
    rw [h1] at h4; cases h4
    rw [dif_pos ⟨by omega, h3⟩]

/-- Are there too many rows, or too wide ones? -/
def bigR (rs : List (List ByteArray)) : Prop := 1048576 < rs.length ∨ 16384 < wideN (fun i => ⟨0, 0, (rs.getD i []).length, 0, none⟩) rs.length

theorem wideN_congr {g g' : Nat → RW} : ∀ {L : Nat}, (∀ i, i < L → (g i).len = (g' i).len) → wideN g L = wideN g' L
  | 0, _ => rfl
  | L + 1, h => by
    have := wideN_congr (g := g) (g' := g') (L := L) fun i hi => h i (by omega)
    rw [wideN, wideN, this, h L (by omega)]

end Go.Sp
namespace Go.Eng
open Go.Sp Go.Proofs.YtdokphikobfakaaDoor

/-- What Read tells. -/
def rdO (s : ByteArray) (c : Int) (z : AV) (H' : HH) : Prop :=
  (¬ sepOk c ∧ z = .tup [.v (.slice none 0 0), .v (.int .i64 0), .v (.int .i64 2)]) ∨
  (sepOk c ∧ rowsF s c.toNat.toUInt8 0 = none ∧ ∃ b : Int, 0 ≤ b ∧ b ≤ (s.size : Int) ∧ z = .tup [.v (.slice none 0 0), .v (.int .i64 b), .v (.int .i64 13)]) ∨
  (∃ rs, sepOk c ∧ rowsF s c.toNat.toUInt8 0 = some rs ∧ bigR rs ∧ z = .tup [.v (.slice none 0 0), .v (.int .i64 0), .v (.int .i64 7)]) ∨
  (∃ (rs : List (List ByteArray)) (g : Nat → RW) (a : Option Addr) (n cap : Nat) (S : List Nat), sepOk c ∧ rowsF s c.toNat.toUInt8 0 = some rs ∧ ¬ bigR rs ∧ (∀ i, i < rs.length → (g i).len = (rs.getD i []).length) ∧
    z = .tup [.os 1 a n 0 0 1 rs.length cap, .v (.int .i64 0), .v (.int .i64 0)] ∧ LeH H' [⟨n, .texts 0 rs.length g (atR rs) S false, true⟩])

theorem atS_last (fs : List ByteArray) (t : ByteArray) {j : Nat} (h : j < fs.length + 1) : (if j < fs.length then atS fs j else t) = atS (fs ++ [t]) j := by
  unfold atS
  split
  · rename_i hj; simp [List.getElem?_append_left hj]
  · obtain rfl : j = fs.length := by omega
    simp

/-- A row is there. -/
theorem row_done {H : HH} {b0 : Blk} {nO L cO m cR k : Nat} {a : Option Addr} {G : Nat → SV} {G2 : Nat → ByteArray} {g : Nat → RW} {rs : List (List ByteArray)} {fs : List ByteArray} {SO S2 SR : List Nat}
    (e0 : nth H 0 = some b0) (e1 : nth H 1 = some ⟨nO, .lst 0 (L + 1) [.slcs G] SO (some (cO, 35)), true⟩) (e2 : nth H 2 = some (rP L g (atR rs) S2)) (e6 : nth H 6 = some ⟨m, .lst 0 k [.strs G2] SR (some (cR, 9)), true⟩)
    (hL : L = rs.length) (hk : fs.length = k) (h1 : ∀ i, i < L + 1 → svR (if i < L then g i else ⟨m, 0, k, cR, a⟩) = G i) (h2 : ∀ j, j < k → G2 j = atS fs j) :
    LeH H [b0, oB nO (L + 1) (fun i => if i < L then g i else ⟨m, 0, k, cR, a⟩) SO cO, rP (L + 1) (fun i => if i < L then g i else ⟨m, 0, k, cR, a⟩) (atR (rs ++ [fs])) (S2 ++ SR)] := by
  let e : Blk := rP (L + 1) (fun i => if i < L then g i else ⟨m, 0, k, cR, a⟩) (atR (rs ++ [fs])) (S2 ++ SR)
  have m1 := le_merge (b := rP L g (atR rs) S2) (d := ⟨m, .lst 0 k [.strs G2] SR (some (cR, 9)), true⟩) (e := e) (by rw [← nth_eq]; exact e2) (by rw [← nth_eq]; exact e6) (by decide) (fun k hk => List.mem_append.1 (show k ∈ S2 ++ SR from hk)) (fun _ => ⟨rfl, rfl⟩) fun w g1 g2 => by
    refine ⟨fun k hk => ?_, fun i hi j hj => ?_⟩
    · rcases List.mem_append.1 (show k ∈ S2 ++ SR from hk) with hk | hk
      · exact g1.1 k hk
      · exact g2.1 k hk
    · have hi : i < L + 1 := hi
      by_cases hlt : i < L
      · have hj' : j < (g i).len := by simpa [if_pos hlt] using hj
        obtain ⟨q1, c, ty, fz, q2, q3⟩ := g1.2 i hlt j hj'
        have q1 : (g i).n ∈ S2 := q1
        refine ⟨?_, c, ty, fz, ?_, ?_⟩
        · show (if i < L then g i else _).n ∈ S2 ++ SR
          rw [if_pos hlt]; exact List.mem_append_left _ q1
        · show part_ w (S2 ++ SR) (if i < L then g i else _).n = _
          rw [if_pos hlt]
          have q2 : part_ w S2 (g i).n = some (.cells c ty fz) := q2
          simp only [part_, if_pos q1] at q2
          simp only [part_, if_pos (List.mem_append_left SR q1), q2]
        · show c[(if i < L then g i else _).o + j]? = some (.string (atR (rs ++ [fs]) i j))
          rw [if_pos hlt]
          have : atR (rs ++ [fs]) i j = atR rs i j := by
            unfold atR
            rw [List.getD_eq_getElem?_getD, List.getD_eq_getElem?_getD, List.getElem?_append_left (by omega)]
          rw [this]; exact q3
      · obtain rfl : i = L := by omega
        have hj' : j < k := by simpa [if_neg hlt] using hj
        obtain ⟨q1, c, ty, fz, q2, q3⟩ := g2.2.1 (by omega)
        refine ⟨?_, c.toArray, ty, fz, ?_, ?_⟩
        · show (if i < i then g i else _).n ∈ S2 ++ SR
          rw [if_neg hlt]; exact List.mem_append_right _ q1
        · show part_ w (S2 ++ SR) (if i < i then g i else _).n = _
          rw [if_neg hlt]
          have q2 : w.heap[m]? = some (.cells c.toArray ty fz) := q2
          have q1' : m ∈ S2 ++ SR := List.mem_append_right _ q1
          simp only [part_, if_pos q1', q2]
        · show c.toArray[(if i < i then g i else ⟨m, 0, k, cR, a⟩ : RW).o + j]? = some (.string (atR (rs ++ [fs]) i j))
          rw [if_neg hlt]
          have q3 := q3 j hj' 0 _ rfl
          have e3 : atR (rs ++ [fs]) i j = atS fs j := by
            unfold atR
            rw [List.getD_eq_getElem?_getD, hL, List.getElem?_append_right (Nat.le_refl _)]
            simp
          rw [e3, ← h2 j hj']
          simpa [Col.at, AV.den] using q3
  refine m1.trans (leAt [0, 1, 2] (by decide) ?_)
  have l6 : 6 < H.length := (List.getElem?_eq_some_iff.1 (by rw [← nth_eq]; exact e6)).1
  have f0 : nth ((H.set 2 e).set 6 nilB) 0 = some b0 := by
    rw [nth_eq, List.getElem?_set_ne (by decide), List.getElem?_set_ne (by decide), ← nth_eq]; exact e0
  have f1 : nth ((H.set 2 e).set 6 nilB) 1 = some ⟨nO, .lst 0 (L + 1) [.slcs G] SO (some (cO, 35)), true⟩ := by
    rw [nth_eq, List.getElem?_set_ne (by decide), List.getElem?_set_ne (by decide), ← nth_eq]; exact e1
  have f2 : nth ((H.set 2 e).set 6 nilB) 2 = some e := by
    rw [nth_eq, List.getElem?_set_ne (by decide), List.getElem?_set_self (by omega)]
  simp only [pickH, f0, f1, f2]
  refine ⟨LeB.refl _, LeB.lst rfl (Nat.le_refl _) (fun h => h) (.inr rfl) fun i hi => ?_, LeB.refl _, trivial⟩
  simp only [rowOf, Col.at, h1 i hi]

theorem len_done {rs : List (List ByteArray)} {g : Nat → RW} {m cR : Nat} {a : Option Addr} {fs : List ByteArray} {t : ByteArray} (h : ∀ i, i < rs.length → (g i).len = (rs.getD i []).length) {i : Nat} (hi : i < rs.length + 1) : (if i < rs.length then g i else ⟨m, 0, fs.length + 1, cR, a⟩ : RW).len = ((rs ++ [fs ++ [t]]).getD i []).length := by
  rw [List.getD_eq_getElem?_getD]
  by_cases h2 : i < rs.length
  · rw [if_pos h2, h i h2, List.getElem?_append_left h2, List.getD_eq_getElem?_getD]
  · obtain rfl : i = rs.length := by omega
    rw [if_neg h2, List.getElem?_append_right (Nat.le_refl _)]
    simp

theorem strs_last {fs : List ByteArray} {t : ByteArray} {j : Nat} (h : j < fs.length + 1) : (if j < fs.length then atS fs j else if j < fs.length + 1 then (match asS ((nth [AV.v (Value.string t)] ((0 + (j - fs.length)) * 1 + 0)).getD (AV.v undef)) with | some x => x | none => ByteArray.empty) else ByteArray.empty) = atS (fs ++ [t]) j := by
  rw [← atS_last fs t h]
  split
  · rfl
  · obtain rfl : j = fs.length := by omega
    rw [Nat.sub_self]
    rfl

end Go.Eng
namespace Go.Proofs.YtdokphikobfakaaDoor
open Go Go.Eng Go.Sp
set_option linter.unusedVariables false
set_option linter.unusedSimpArgs false

theorem byte_c {s : ByteArray} {p : Nat} {c : Int} (h0 : 0 ≤ c) (h1 : c ≤ 255) (hp : p < s.size) : (byteAt s p != c) = false ↔ s.data.toList[p]? = some c.toNat.toUInt8 := by
  have hs : s.data.toList.length = s.size := Array.length_toList
  have hb : s.data.toList[p]? = some (s.data.toList[p]'(by omega)) := List.getElem?_eq_getElem _
  have hby : byteAt s p = ((s.data.toList[p]'(by omega)).toNat : Int) := by unfold byteAt; rw [hb]; rfl
  rw [hb, hby, Option.some.injEq, bne_eq_false_iff_eq]
  constructor
  · intro h
    apply UInt8.toNat.inj
    have : (c.toNat.toUInt8).toNat = c.toNat := by simp; omega
    rw [this]; omega
  · intro h
    rw [h]
    have : (c.toNat.toUInt8).toNat = c.toNat := by simp; omega
    rw [this]; omega

end Go.Proofs.YtdokphikobfakaaDoor

namespace Go.Proofs.YtdokphikobfakaaDoor
open Go Go.Eng Go.Sp
set_option linter.unusedVariables false
set_option linter.unusedSimpArgs false

set_option maxRecDepth 20000 in
set_option maxHeartbeats 16000000 in
theorem rd_lc (s : ByteArray) (c : Int) (h0 : 0 ≤ c) (h1 : c ≤ 255) (hs : s.size ≤ 268435456) : LC Tryd.prog 13 [.v (.string s), .v (.int .u8 c)] [] (rdO s c) :=
  rd0_vc s c (by
    refine br_intro (fun c0 => br_intro (fun c1 => br_intro (fun c2 => br_intro (fun c3 => ?_) (fun c3 => ?_)) (fun c2 => ?_)) (fun c1 => ?_)) (fun c0 => ?_)
    · exact .inl ⟨fun h => by simp at c3; exact h.2.2.2 c3, rfl⟩
    rotate_left
    · exact .inl ⟨fun h => by simp at c2; exact h.2.2.1 c2, rfl⟩
    · exact .inl ⟨fun h => by simp at c1; exact h.2.1 c1, rfl⟩
    · exact .inl ⟨fun h => by simp at c0; exact h.1 c0, rfl⟩
    have hsep : sepOk c := by simp at c0 c1 c2 c3; exact ⟨c0, c1, c2, c3⟩
    intro n1
    refine ⟨⟨⟨0, [], fun _ => ⟨0, 0, 0, 0, none⟩, none, 0, 0, [], []⟩, ⟨?_, Nat.zero_le _, Nat.zero_le _, fun i hi => absurd hi (Nat.not_lt_zero _), fun _ => .inl rfl⟩, ⟨rfl, rfl, rfl, trivial⟩, ?_⟩, fun x hx => ?_⟩
    · cases rowsF s c.toNat.toUInt8 0 <;> rfl
    · refine LeH.trans (H1 := [rdB n1 s 0 c (-1) true, oB 0 0 (fun _ => ⟨0, 0, 0, 0, none⟩) [] 0]) (LeH.more rfl fun w => lst_nil (.inr ⟨_, rfl, rfl⟩)) (LeH.more rfl fun w => ⟨fun k hk => (by cases hk), fun i hi => absurd hi (Nat.not_lt_zero _)⟩)
    obtain ⟨x1, x2, x3, x4, x5⟩ := hx
    repeat refine And.intro rfl ?_
    refine br_intro (fun hlt => ?_) (fun hge => ?_)
    rotate_left
    · -- all is read
      have hend : s.size ≤ x.pos := by have := of_decide_eq_false hge; omega
      have hall : rowsF s c.toNat.toUInt8 0 = some x.rs := by rw [x1, rowsF_end hend]; simp
      have hwc : wideN x.g x.rs.length = wideN (fun i => ⟨0, 0, (x.rs.getD i []).length, 0, none⟩) x.rs.length := wideN_congr fun i hi => x4 i hi
      refine br_intro (fun hb => ?_) (fun hb => ?_)
      · exact .inr (.inr (.inl ⟨x.rs, hsep, hall, .inl (by have := of_decide_eq_true hb; omega), rfl⟩))
      · refine ⟨x.g, atR x.rs, x.S, x.S2, x.cap, rfl, rfl, by omega, br_intro (fun hw => ?_) (fun hw => ?_)⟩
        · exact .inr (.inr (.inl ⟨x.rs, hsep, hall, .inr (by have := of_decide_eq_true hw; omega), rfl⟩))
        · refine .inr (.inr (.inr ⟨x.rs, x.g, x.a, x.n, x.cap, x.S ++ x.S2, hsep, hall, ?_, x4, rfl, le_texts rfl rfl⟩))
          have := of_decide_eq_false hb
          have := of_decide_eq_false hw
          rintro (h | h) <;> omega
    have hlt : x.pos < s.size := by have := of_decide_eq_true hlt; omega
    intro n4 n5 n6
    refine ⟨⟨⟨x.pos, [], none, 0, 0, []⟩, ⟨?_, x2, Nat.le_refl _, Nat.zero_le _, fun _ => .inl rfl⟩, ⟨rfl, rfl, trivial⟩, ?_⟩, fun y hy => ?_⟩
    · show rowF s c.toNat.toUInt8 x.pos = Option.map _ (rowF s c.toNat.toUInt8 x.pos)
      cases rowF s c.toNat.toUInt8 x.pos <;> simp
    · exact LeH.trans (LeH.more (b := ⟨0, .lst 0 0 [.strs (atS [])] [] (some (0, 9)), true⟩) rfl fun w => lst_nil (.inr ⟨_, rfl, rfl⟩)) (leAt [0, 1, 2, 3, 4, 5, 6] (by decide) ⟨LeB.refl _, LeB.refl _, LeB.refl _, LeB.cells rfl (fun h => h), LeB.refl _, LeB.refl _, LeB.refl _, trivial⟩)
    obtain ⟨y1, y2, y3, y4, y5⟩ := hy
    have y1 : rowF s c.toNat.toUInt8 x.pos = Option.map (fun z => (y.fs ++ z.1, z.2)) (rowF s c.toNat.toUInt8 y.pos) := y1
    have y3 : x.pos ≤ y.pos := y3
    have hsl : s.data.toList.length = s.size := Array.length_toList
    repeat refine And.intro rfl ?_
    refine ⟨⟨by omega, by omega⟩, Nat.le_refl _, ?_⟩
    rw [Int.toNat_natCast, toList_subE]
    refine br_intro (fun hq => ?_) (fun hp => ?_)
    · have hv : fR s c.toNat.toUInt8 y.pos = (qR s y.pos) := by unfold fR; rw [if_pos (pre_head.1 hq)]
      repeat refine And.intro rfl ?_
      refine ⟨s, y.pos, c, rfl, (Nat.lt_of_not_le fun h => by have hh := pre_head.1 hq; rw [List.drop_of_length_le (by omega)] at hh; cases hh), by omega, ?_⟩
      obtain ⟨f1, f2, f3⟩ := qR_ok (s := s) (pos := y.pos) y2
      have rowEnd : (qR s y.pos).bad = -1 → ¬ ((qR s y.pos).pos < s.size ∧ s.data.toList[(qR s y.pos).pos]? = some c.toNat.toUInt8) → rowF s c.toNat.toUInt8 x.pos = some (y.fs ++ [(qR s y.pos).t], (qR s y.pos).pos) := fun g1 g2 => by
        rw [y1, rowF_end hv g1 g2]; rfl
      obtain ⟨⟨w1, w2, w3⟩, w4⟩ := eR_ok (s := s) (pos := (qR s y.pos).pos) f3
      have hlR : (x.rs ++ [y.fs ++ [(qR s y.pos).t]]).length = x.rs.length + 1 := by simp
      have hlf : (y.fs ++ [(qR s y.pos).t]).length = y.fs.length + 1 := by simp
      repeat refine And.intro rfl ?_
      refine br_intro (fun hb => ?_) (fun hb => ?_)
      · have hb := of_decide_eq_true hb
        repeat refine And.intro rfl ?_
        refine br_intro (fun hb2 => absurd (of_decide_eq_true hb2) (by omega)) (fun _ => ?_)
        repeat refine And.intro rfl ?_
        refine br_intro (fun _ => ?_) (fun hb3 => absurd hb (of_decide_eq_false hb3))
        repeat refine And.intro rfl ?_
        refine .inr (.inl ⟨hsep, ?_, (qR s y.pos).bad, hb, by omega, rfl⟩)
        rw [x1, rowsF_none hlt (by rw [y1, rowF_bad hv hb]; rfl)]; rfl
      · have hb := of_decide_eq_false hb
        have hb1 : (qR s y.pos).bad = -1 := by omega
        repeat refine And.intro rfl ?_
        intro n12
        repeat refine And.intro rfl ?_
        refine ⟨Nat.le_refl _, rfl, y5, ⟨by omega, by omega⟩, fun a' n14 n15 S' g1 g2 => ?_⟩
        repeat refine And.intro rfl ?_
        refine br_intro (fun he => ?_) (fun he => ?_)
        · have hpe : (qR s y.pos).pos = s.size := by have := eq_of_beq he; omega
          have hno : ¬ ((qR s y.pos).pos < s.size ∧ s.data.toList[(qR s y.pos).pos]? = some c.toNat.toUInt8) := fun h => by omega
          repeat refine And.intro rfl ?_
          refine br_intro (fun _ => ⟨s, (qR s y.pos).pos, c, by rw [hb1], f3, by omega, ?_⟩) (fun hb2 => absurd (of_decide_eq_false hb2) (by omega))
          repeat refine And.intro rfl ?_
          refine br_intro (fun hx => ?_) (fun hx => ?_)
          · have hx := of_decide_eq_true hx
            repeat refine And.intro rfl ?_
            refine .inr (.inl ⟨hsep, ?_, (eR s (qR s y.pos).pos).bad, hx, by omega, rfl⟩)
            rw [x1, rowsF_bad hlt (rowEnd hb1 hno) hx]; rfl
          · have hx := of_decide_eq_false hx
            have hx1 : (eR s (qR s y.pos).pos).bad = -1 := by omega
            have hadv : x.pos < (eR s (qR s y.pos).pos).pos := by rcases w4 hx1 with h | h <;> omega
            repeat refine And.intro rfl ?_
            intro n22
            repeat refine And.intro rfl ?_
            refine ⟨Nat.le_refl _, rfl, x5, ⟨by omega, by omega⟩, fun b' n24 n25 SO g3 g4 => ⟨⟨(eR s (qR s y.pos).pos).pos, x.rs ++ [y.fs ++ [(qR s y.pos).t]], fun i => if i < x.rs.length then x.g i else ⟨n14, 0, y.fs.length + 1, n15, a'⟩, b', n24, n25, SO, x.S2 ++ S'⟩, ⟨?_, w3, ?_, fun i hi => ?_, ?_⟩, ?_, ⟨?_, rfl, rfl, trivial⟩, ?_⟩⟩
            · rw [x1, rowsF_more hlt (rowEnd hb1 hno) hx1 hadv, Option.map_map]
              congr 1; funext z; simp
            · show (x.rs ++ [y.fs ++ [(qR s y.pos).t]]).length ≤ (eR s (qR s y.pos).pos).pos
              rw [hlR]; omega
            · have hi : i < (x.rs ++ [y.fs ++ [(qR s y.pos).t]]).length := hi
              rw [hlR] at hi
              exact len_done x4 hi
            · show emptyOk b' n24 (x.rs ++ [y.fs ++ [(qR s y.pos).t]]).length n25
              rw [hlR]; exact g4
            · show s.size - (eR s (qR s y.pos).pos).pos < _
              omega
            · exact os_den hlR.symm
            · dsimp only
              rw [hlR]
              refine (row_done (rs := x.rs) (fs := y.fs ++ [(qR s y.pos).t]) (g := x.g) (L := x.rs.length) (k := y.fs.length + 1) (a := a') rfl rfl rfl rfl rfl (by simp) (fun i hi => ?_) (fun j hj => strs_last hj)).trans (leAt [0, 1, 2] (by decide) ⟨LeB.cells (by rw [hx1]) (fun h => h), LeB.refl _, LeB.refl _, trivial⟩)
              by_cases hi2 : i < x.rs.length
              · simp only [if_pos hi2]
              · obtain rfl : i = x.rs.length := by omega
                simp only [if_neg (Nat.lt_irrefl _), if_pos (Nat.lt_succ_self _), Nat.sub_self]
                rfl
        · have hpe : (qR s y.pos).pos < s.size := by have := beq_eq_false_iff_ne.1 he; omega
          repeat refine And.intro rfl ?_
          refine ⟨⟨by omega, by omega⟩, ?_⟩
          repeat refine And.intro rfl ?_
          rw [Int.toNat_natCast]
          refine br_intro (fun hc => ?_) (fun hc => ?_)
          · have hno : ¬ ((qR s y.pos).pos < s.size ∧ s.data.toList[(qR s y.pos).pos]? = some c.toNat.toUInt8) := fun h => by
              rw [(byte_c h0 h1 hpe).2 h.2] at hc; cases hc
            repeat refine And.intro rfl ?_
            refine br_intro (fun _ => ⟨s, (qR s y.pos).pos, c, by rw [hb1], f3, by omega, ?_⟩) (fun hb2 => absurd (of_decide_eq_false hb2) (by omega))
            repeat refine And.intro rfl ?_
            refine br_intro (fun hx => ?_) (fun hx => ?_)
            · have hx := of_decide_eq_true hx
              repeat refine And.intro rfl ?_
              refine .inr (.inl ⟨hsep, ?_, (eR s (qR s y.pos).pos).bad, hx, by omega, rfl⟩)
              rw [x1, rowsF_bad hlt (rowEnd hb1 hno) hx]; rfl
            · have hx := of_decide_eq_false hx
              have hx1 : (eR s (qR s y.pos).pos).bad = -1 := by omega
              have hadv : x.pos < (eR s (qR s y.pos).pos).pos := by rcases w4 hx1 with h | h <;> omega
              repeat refine And.intro rfl ?_
              intro n22
              repeat refine And.intro rfl ?_
              refine ⟨Nat.le_refl _, rfl, x5, ⟨by omega, by omega⟩, fun b' n24 n25 SO g3 g4 => ⟨⟨(eR s (qR s y.pos).pos).pos, x.rs ++ [y.fs ++ [(qR s y.pos).t]], fun i => if i < x.rs.length then x.g i else ⟨n14, 0, y.fs.length + 1, n15, a'⟩, b', n24, n25, SO, x.S2 ++ S'⟩, ⟨?_, w3, ?_, fun i hi => ?_, ?_⟩, ?_, ⟨?_, rfl, rfl, trivial⟩, ?_⟩⟩
              · rw [x1, rowsF_more hlt (rowEnd hb1 hno) hx1 hadv, Option.map_map]
                congr 1; funext z; simp
              · show (x.rs ++ [y.fs ++ [(qR s y.pos).t]]).length ≤ (eR s (qR s y.pos).pos).pos
                rw [hlR]; omega
              · have hi : i < (x.rs ++ [y.fs ++ [(qR s y.pos).t]]).length := hi
                rw [hlR] at hi
                exact len_done x4 hi
              · show emptyOk b' n24 (x.rs ++ [y.fs ++ [(qR s y.pos).t]]).length n25
                rw [hlR]; exact g4
              · show s.size - (eR s (qR s y.pos).pos).pos < _
                omega
              · exact os_den hlR.symm
              · dsimp only
                rw [hlR]
                refine (row_done (rs := x.rs) (fs := y.fs ++ [(qR s y.pos).t]) (g := x.g) (L := x.rs.length) (k := y.fs.length + 1) (a := a') rfl rfl rfl rfl rfl (by simp) (fun i hi => ?_) (fun j hj => strs_last hj)).trans (leAt [0, 1, 2] (by decide) ⟨LeB.cells (by rw [hx1]) (fun h => h), LeB.refl _, LeB.refl _, trivial⟩)
                by_cases hi2 : i < x.rs.length
                · simp only [if_pos hi2]
                · obtain rfl : i = x.rs.length := by omega
                  simp only [if_neg (Nat.lt_irrefl _), if_pos (Nat.lt_succ_self _), Nat.sub_self]
                  rfl
          · have hyes := (byte_c h0 h1 hpe).1 hc
            repeat refine And.intro rfl ?_
            refine ⟨⟨(qR s y.pos).pos + 1, y.fs ++ [(qR s y.pos).t], a', n14, n15, S'⟩, ⟨?_, hpe, by show x.pos ≤ (qR s y.pos).pos + 1; omega, ?_, ?_⟩, ?_, ⟨rfl, rfl, trivial⟩, ?_⟩
            · show rowF s c.toNat.toUInt8 x.pos = _
              rw [y1, rowF_more hv hb1 hpe hyes f2, Option.map_map]
              congr 1; funext z; simp
            · show (y.fs ++ [(qR s y.pos).t]).length ≤ (qR s y.pos).pos + 1
              rw [hlf]; omega
            · show emptyOk a' n14 (y.fs ++ [(qR s y.pos).t]).length n15
              rw [hlf]; exact g2
            · show s.size - ((qR s y.pos).pos + 1) < s.size - y.pos
              omega
            · dsimp only
              rw [hlf]
              exact leAt [0, 1, 2, 3, 4, 5, 6] (by decide) ⟨LeB.cells (by rw [hb1, w64 (by omega)]; rfl) (fun h => h), LeB.refl _, LeB.refl _, LeB.refl _, LeB.refl _, LeB.refl _, LeB.strs (Nat.le_refl _) (fun h => h) (.inr rfl) (fun j hj => (strs_last hj).symm), trivial⟩
    · have hv : fR s c.toNat.toUInt8 y.pos = (pR s y.pos c.toNat.toUInt8) := by unfold fR; rw [if_neg (fun h => by rw [pre_head.2 h] at hp; cases hp)]
      repeat refine And.intro rfl ?_
      refine ⟨s, y.pos, c, rfl, y2, by omega, ?_⟩
      obtain ⟨f1, f2, f3⟩ := pR_ok (s := s) (pos := y.pos) (c := c.toNat.toUInt8) y2
      have rowEnd : (pR s y.pos c.toNat.toUInt8).bad = -1 → ¬ ((pR s y.pos c.toNat.toUInt8).pos < s.size ∧ s.data.toList[(pR s y.pos c.toNat.toUInt8).pos]? = some c.toNat.toUInt8) → rowF s c.toNat.toUInt8 x.pos = some (y.fs ++ [(pR s y.pos c.toNat.toUInt8).t], (pR s y.pos c.toNat.toUInt8).pos) := fun g1 g2 => by
        rw [y1, rowF_end hv g1 g2]; rfl
      obtain ⟨⟨w1, w2, w3⟩, w4⟩ := eR_ok (s := s) (pos := (pR s y.pos c.toNat.toUInt8).pos) f3
      have hlR : (x.rs ++ [y.fs ++ [(pR s y.pos c.toNat.toUInt8).t]]).length = x.rs.length + 1 := by simp
      have hlf : (y.fs ++ [(pR s y.pos c.toNat.toUInt8).t]).length = y.fs.length + 1 := by simp
      repeat refine And.intro rfl ?_
      refine br_intro (fun hb => ?_) (fun hb => ?_)
      · have hb := of_decide_eq_true hb
        repeat refine And.intro rfl ?_
        refine br_intro (fun hb2 => absurd (of_decide_eq_true hb2) (by omega)) (fun _ => ?_)
        repeat refine And.intro rfl ?_
        refine br_intro (fun _ => ?_) (fun hb3 => absurd hb (of_decide_eq_false hb3))
        repeat refine And.intro rfl ?_
        refine .inr (.inl ⟨hsep, ?_, (pR s y.pos c.toNat.toUInt8).bad, hb, by omega, rfl⟩)
        rw [x1, rowsF_none hlt (by rw [y1, rowF_bad hv hb]; rfl)]; rfl
      · have hb := of_decide_eq_false hb
        have hb1 : (pR s y.pos c.toNat.toUInt8).bad = -1 := by omega
        repeat refine And.intro rfl ?_
        intro n12
        repeat refine And.intro rfl ?_
        refine ⟨Nat.le_refl _, rfl, y5, ⟨by omega, by omega⟩, fun a' n14 n15 S' g1 g2 => ?_⟩
        repeat refine And.intro rfl ?_
        refine br_intro (fun he => ?_) (fun he => ?_)
        · have hpe : (pR s y.pos c.toNat.toUInt8).pos = s.size := by have := eq_of_beq he; omega
          have hno : ¬ ((pR s y.pos c.toNat.toUInt8).pos < s.size ∧ s.data.toList[(pR s y.pos c.toNat.toUInt8).pos]? = some c.toNat.toUInt8) := fun h => by omega
          repeat refine And.intro rfl ?_
          refine br_intro (fun _ => ⟨s, (pR s y.pos c.toNat.toUInt8).pos, c, by rw [hb1], f3, by omega, ?_⟩) (fun hb2 => absurd (of_decide_eq_false hb2) (by omega))
          repeat refine And.intro rfl ?_
          refine br_intro (fun hx => ?_) (fun hx => ?_)
          · have hx := of_decide_eq_true hx
            repeat refine And.intro rfl ?_
            refine .inr (.inl ⟨hsep, ?_, (eR s (pR s y.pos c.toNat.toUInt8).pos).bad, hx, by omega, rfl⟩)
            rw [x1, rowsF_bad hlt (rowEnd hb1 hno) hx]; rfl
          · have hx := of_decide_eq_false hx
            have hx1 : (eR s (pR s y.pos c.toNat.toUInt8).pos).bad = -1 := by omega
            have hadv : x.pos < (eR s (pR s y.pos c.toNat.toUInt8).pos).pos := by rcases w4 hx1 with h | h <;> omega
            repeat refine And.intro rfl ?_
            intro n22
            repeat refine And.intro rfl ?_
            refine ⟨Nat.le_refl _, rfl, x5, ⟨by omega, by omega⟩, fun b' n24 n25 SO g3 g4 => ⟨⟨(eR s (pR s y.pos c.toNat.toUInt8).pos).pos, x.rs ++ [y.fs ++ [(pR s y.pos c.toNat.toUInt8).t]], fun i => if i < x.rs.length then x.g i else ⟨n14, 0, y.fs.length + 1, n15, a'⟩, b', n24, n25, SO, x.S2 ++ S'⟩, ⟨?_, w3, ?_, fun i hi => ?_, ?_⟩, ?_, ⟨?_, rfl, rfl, trivial⟩, ?_⟩⟩
            · rw [x1, rowsF_more hlt (rowEnd hb1 hno) hx1 hadv, Option.map_map]
              congr 1; funext z; simp
            · show (x.rs ++ [y.fs ++ [(pR s y.pos c.toNat.toUInt8).t]]).length ≤ (eR s (pR s y.pos c.toNat.toUInt8).pos).pos
              rw [hlR]; omega
            · have hi : i < (x.rs ++ [y.fs ++ [(pR s y.pos c.toNat.toUInt8).t]]).length := hi
              rw [hlR] at hi
              exact len_done x4 hi
            · show emptyOk b' n24 (x.rs ++ [y.fs ++ [(pR s y.pos c.toNat.toUInt8).t]]).length n25
              rw [hlR]; exact g4
            · show s.size - (eR s (pR s y.pos c.toNat.toUInt8).pos).pos < _
              omega
            · exact os_den hlR.symm
            · dsimp only
              rw [hlR]
              refine (row_done (rs := x.rs) (fs := y.fs ++ [(pR s y.pos c.toNat.toUInt8).t]) (g := x.g) (L := x.rs.length) (k := y.fs.length + 1) (a := a') rfl rfl rfl rfl rfl (by simp) (fun i hi => ?_) (fun j hj => strs_last hj)).trans (leAt [0, 1, 2] (by decide) ⟨LeB.cells (by rw [hx1]) (fun h => h), LeB.refl _, LeB.refl _, trivial⟩)
              by_cases hi2 : i < x.rs.length
              · simp only [if_pos hi2]
              · obtain rfl : i = x.rs.length := by omega
                simp only [if_neg (Nat.lt_irrefl _), if_pos (Nat.lt_succ_self _), Nat.sub_self]
                rfl
        · have hpe : (pR s y.pos c.toNat.toUInt8).pos < s.size := by have := beq_eq_false_iff_ne.1 he; omega
          repeat refine And.intro rfl ?_
          refine ⟨⟨by omega, by omega⟩, ?_⟩
          repeat refine And.intro rfl ?_
          rw [Int.toNat_natCast]
          refine br_intro (fun hc => ?_) (fun hc => ?_)
          · have hno : ¬ ((pR s y.pos c.toNat.toUInt8).pos < s.size ∧ s.data.toList[(pR s y.pos c.toNat.toUInt8).pos]? = some c.toNat.toUInt8) := fun h => by
              rw [(byte_c h0 h1 hpe).2 h.2] at hc; cases hc
            repeat refine And.intro rfl ?_
            refine br_intro (fun _ => ⟨s, (pR s y.pos c.toNat.toUInt8).pos, c, by rw [hb1], f3, by omega, ?_⟩) (fun hb2 => absurd (of_decide_eq_false hb2) (by omega))
            repeat refine And.intro rfl ?_
            refine br_intro (fun hx => ?_) (fun hx => ?_)
            · have hx := of_decide_eq_true hx
              repeat refine And.intro rfl ?_
              refine .inr (.inl ⟨hsep, ?_, (eR s (pR s y.pos c.toNat.toUInt8).pos).bad, hx, by omega, rfl⟩)
              rw [x1, rowsF_bad hlt (rowEnd hb1 hno) hx]; rfl
            · have hx := of_decide_eq_false hx
              have hx1 : (eR s (pR s y.pos c.toNat.toUInt8).pos).bad = -1 := by omega
              have hadv : x.pos < (eR s (pR s y.pos c.toNat.toUInt8).pos).pos := by rcases w4 hx1 with h | h <;> omega
              repeat refine And.intro rfl ?_
              intro n22
              repeat refine And.intro rfl ?_
              refine ⟨Nat.le_refl _, rfl, x5, ⟨by omega, by omega⟩, fun b' n24 n25 SO g3 g4 => ⟨⟨(eR s (pR s y.pos c.toNat.toUInt8).pos).pos, x.rs ++ [y.fs ++ [(pR s y.pos c.toNat.toUInt8).t]], fun i => if i < x.rs.length then x.g i else ⟨n14, 0, y.fs.length + 1, n15, a'⟩, b', n24, n25, SO, x.S2 ++ S'⟩, ⟨?_, w3, ?_, fun i hi => ?_, ?_⟩, ?_, ⟨?_, rfl, rfl, trivial⟩, ?_⟩⟩
              · rw [x1, rowsF_more hlt (rowEnd hb1 hno) hx1 hadv, Option.map_map]
                congr 1; funext z; simp
              · show (x.rs ++ [y.fs ++ [(pR s y.pos c.toNat.toUInt8).t]]).length ≤ (eR s (pR s y.pos c.toNat.toUInt8).pos).pos
                rw [hlR]; omega
              · have hi : i < (x.rs ++ [y.fs ++ [(pR s y.pos c.toNat.toUInt8).t]]).length := hi
                rw [hlR] at hi
                exact len_done x4 hi
              · show emptyOk b' n24 (x.rs ++ [y.fs ++ [(pR s y.pos c.toNat.toUInt8).t]]).length n25
                rw [hlR]; exact g4
              · show s.size - (eR s (pR s y.pos c.toNat.toUInt8).pos).pos < _
                omega
              · exact os_den hlR.symm
              · dsimp only
                rw [hlR]
                refine (row_done (rs := x.rs) (fs := y.fs ++ [(pR s y.pos c.toNat.toUInt8).t]) (g := x.g) (L := x.rs.length) (k := y.fs.length + 1) (a := a') rfl rfl rfl rfl rfl (by simp) (fun i hi => ?_) (fun j hj => strs_last hj)).trans (leAt [0, 1, 2] (by decide) ⟨LeB.cells (by rw [hx1]) (fun h => h), LeB.refl _, LeB.refl _, trivial⟩)
                by_cases hi2 : i < x.rs.length
                · simp only [if_pos hi2]
                · obtain rfl : i = x.rs.length := by omega
                  simp only [if_neg (Nat.lt_irrefl _), if_pos (Nat.lt_succ_self _), Nat.sub_self]
                  rfl
          · have hyes := (byte_c h0 h1 hpe).1 hc
            repeat refine And.intro rfl ?_
            refine ⟨⟨(pR s y.pos c.toNat.toUInt8).pos + 1, y.fs ++ [(pR s y.pos c.toNat.toUInt8).t], a', n14, n15, S'⟩, ⟨?_, hpe, by show x.pos ≤ (pR s y.pos c.toNat.toUInt8).pos + 1; omega, ?_, ?_⟩, ?_, ⟨rfl, rfl, trivial⟩, ?_⟩
            · show rowF s c.toNat.toUInt8 x.pos = _
              rw [y1, rowF_more hv hb1 hpe hyes f2, Option.map_map]
              congr 1; funext z; simp
            · show (y.fs ++ [(pR s y.pos c.toNat.toUInt8).t]).length ≤ (pR s y.pos c.toNat.toUInt8).pos + 1
              rw [hlf]; omega
            · show emptyOk a' n14 (y.fs ++ [(pR s y.pos c.toNat.toUInt8).t]).length n15
              rw [hlf]; exact g2
            · show s.size - ((pR s y.pos c.toNat.toUInt8).pos + 1) < s.size - y.pos
              omega
            · dsimp only
              rw [hlf]
              exact leAt [0, 1, 2, 3, 4, 5, 6] (by decide) ⟨LeB.cells (by rw [hb1, w64 (by omega)]; rfl) (fun h => h), LeB.refl _, LeB.refl _, LeB.refl _, LeB.refl _, LeB.refl _, LeB.strs (Nat.le_refl _) (fun h => h) (.inr rfl) (fun j hj => (strs_last hj).symm), trivial⟩)

end Go.Proofs.YtdokphikobfakaaDoor

namespace Go.Sp
open Go.Eng

/-- Two rows are the same. -/
def rowEq (g1 g2 : Nat → RW) (F1 F2 : Nat → Nat → ByteArray) (i : Nat) : Prop := (g1 i).len = (g2 i).len ∧ ∀ j, j < (g1 i).len → F1 i j = F2 i j

/-- All rows are the same. -/
def sameP (L1 L2 : Nat) (g1 g2 : Nat → RW) (F1 F2 : Nat → Nat → ByteArray) : Prop := L1 = L2 ∧ ∀ i, i < L1 → rowEq g1 g2 F1 F2 i

open Classical in
noncomputable def sameV (L1 L2 : Nat) (g1 g2 : Nat → RW) (F1 F2 : Nat → Nat → ByteArray) : Bool := decide (sameP L1 L2 g1 g2 F1 F2)

end Go.Sp
namespace Go.Eng
open Go.Sp Go.Proofs.YtdokphikobfakaaDoor

def samJ (L1 : Nat) (g1 g2 : Nat → RW) (F1 F2 : Nat → Nat → ByteArray) : Nat → TT → HH → LI := fun b T H =>
  match b with
  | 0 => .inv Nat (fun i => ((5, .v (.int .i64 (i : Int))) :: keepT [0, 1] T, H)) (fun i => i ≤ L1 ∧ ∀ p, p < i → rowEq g1 g2 F1 F2 p) (fun i => L1 - i)
  | 2 =>
    match T.get 5 with
    | some (.v (.int _ i)) => .inv Nat (fun k => ((6, .v (.int .i64 (k : Int))) :: keepT [0, 1, 5] T, H)) (fun k => k ≤ (g1 i.toNat).len ∧ ∀ j, j < k → F1 i.toNat j = F2 i.toNat j) (fun k => (g1 i.toNat).len - k)
    | _ => .unroll 0
  | _ => .unroll 0

end Go.Eng
namespace Go.Proofs.YtdokphikobfakaaDoor
open Go Go.Eng Go.Sp
set_option linter.unusedVariables false
set_option linter.unusedSimpArgs false


set_option maxRecDepth 100000 in
theorem sam0_vc (a1 a2 : Option Addr) (n1 o1 L1 cap1 n2 o2 L2 cap2 : Nat) (g1 g2 : Nat → RW) (F1 F2 : Nat → Nat → ByteArray) (S1 S2 : List Nat) {R : AV → Prop} (h : (br ((↑L1 : Int) != (↑L2 : Int)) (R (AV.v (Value.bool false))) ((∃ (x : Nat), (x ≤ L1 ∧ ∀ (p : Nat), p < x → rowEq g1 g2 F1 F2 p) ∧ ((AV.v (Value.int IntKind.i64 (0 : Int))).den = (AV.v (Value.int IntKind.i64 (↑x : Int))).den ∧ (AV.os (0 : Nat) a1 n1 o1 (0 : Nat) (1 : Nat) L1 cap1).den = (AV.os (0 : Nat) a1 n1 o1 (0 : Nat) (1 : Nat) L1 cap1).den ∧ (AV.os (1 : Nat) a2 n2 o2 (0 : Nat) (1 : Nat) L2 cap2).den = (AV.os (1 : Nat) a2 n2 o2 (0 : Nat) (1 : Nat) L2 cap2).den ∧ True) ∧ LeH [Blk.mk n1 (Cont.texts o1 L1 g1 F1 S1 false) false, Blk.mk n2 (Cont.texts o2 L2 g2 F2 S2 false) false] [Blk.mk n1 (Cont.texts o1 L1 g1 F1 S1 false) false, Blk.mk n2 (Cont.texts o2 L2 g2 F2 S2 false) false]) ∧ ∀ (n1_1 : Nat), (n1_1 ≤ L1 ∧ ∀ (p : Nat), p < n1_1 → rowEq g1 g2 F1 F2 p) → br (decide ((↑n1_1 : Int) < (↑L1 : Int))) (((0 : Int) ≤ (↑n1_1 : Int) ∧ (↑n1_1 : Int) < (↑L1 : Int)) ∧ n1 = n1 ∧ o1 = o1 ∧ (0 : Nat) + (↑n1_1 : Int).toNat < L1 ∧ ((0 : Int) ≤ (↑n1_1 : Int) ∧ (↑n1_1 : Int) < (↑L2 : Int)) ∧ n2 = n2 ∧ o2 = o2 ∧ (0 : Nat) + (↑n1_1 : Int).toNat < L2 ∧ br ((↑(g1 ((0 : Nat) + (↑n1_1 : Int).toNat)).len : Int) != (↑(g2 ((0 : Nat) + (↑n1_1 : Int).toNat)).len : Int)) (R (AV.v (Value.bool false))) ((∃ (x : Nat), (x ≤ (g1 (↑n1_1 : Int).toNat).len ∧ ∀ (j : Nat), j < x → F1 (↑n1_1 : Int).toNat j = F2 (↑n1_1 : Int).toNat j) ∧ ((AV.v (Value.int IntKind.i64 (0 : Int))).den = (AV.v (Value.int IntKind.i64 (↑x : Int))).den ∧ (AV.os (0 : Nat) a1 n1 o1 (0 : Nat) (1 : Nat) L1 cap1).den = (AV.os (0 : Nat) a1 n1 o1 (0 : Nat) (1 : Nat) L1 cap1).den ∧ (AV.os (1 : Nat) a2 n2 o2 (0 : Nat) (1 : Nat) L2 cap2).den = (AV.os (1 : Nat) a2 n2 o2 (0 : Nat) (1 : Nat) L2 cap2).den ∧ (AV.v (Value.int IntKind.i64 (↑n1_1 : Int))).den = (AV.v (Value.int IntKind.i64 (↑n1_1 : Int))).den ∧ True) ∧ LeH [Blk.mk n1 (Cont.texts o1 L1 g1 F1 S1 false) false, Blk.mk n2 (Cont.texts o2 L2 g2 F2 S2 false) false] [Blk.mk n1 (Cont.texts o1 L1 g1 F1 S1 false) false, Blk.mk n2 (Cont.texts o2 L2 g2 F2 S2 false) false]) ∧ ∀ (n3 : Nat), (n3 ≤ (g1 (↑n1_1 : Int).toNat).len ∧ ∀ (j : Nat), j < n3 → F1 (↑n1_1 : Int).toNat j = F2 (↑n1_1 : Int).toNat j) → ((0 : Int) ≤ (↑n1_1 : Int) ∧ (↑n1_1 : Int) < (↑L1 : Int)) ∧ n1 = n1 ∧ o1 = o1 ∧ (0 : Nat) + (↑n1_1 : Int).toNat < L1 ∧ br (decide ((↑n3 : Int) < (↑(g1 ((0 : Nat) + (↑n1_1 : Int).toNat)).len : Int))) (((0 : Int) ≤ (↑n1_1 : Int) ∧ (↑n1_1 : Int) < (↑L1 : Int)) ∧ n1 = n1 ∧ o1 = o1 ∧ (0 : Nat) + (↑n1_1 : Int).toNat < L1 ∧ ((0 : Int) ≤ (↑n3 : Int) ∧ (↑n3 : Int) < (↑(g1 ((0 : Nat) + (↑n1_1 : Int).toNat)).len : Int)) ∧ ∃ (q : Nat), q < L1 ∧ (g1 ((0 : Nat) + (↑n1_1 : Int).toNat)).n = (g1 q).n ∧ (g1 ((0 : Nat) + (↑n1_1 : Int).toNat)).o = (g1 q).o ∧ (0 : Nat) + (↑n3 : Int).toNat < (g1 q).len ∧ ((0 : Int) ≤ (↑n1_1 : Int) ∧ (↑n1_1 : Int) < (↑L2 : Int)) ∧ n2 = n2 ∧ o2 = o2 ∧ (0 : Nat) + (↑n1_1 : Int).toNat < L2 ∧ ((0 : Int) ≤ (↑n3 : Int) ∧ (↑n3 : Int) < (↑(g2 ((0 : Nat) + (↑n1_1 : Int).toNat)).len : Int)) ∧ ∃ (q_1 : Nat), q_1 < L2 ∧ (g2 ((0 : Nat) + (↑n1_1 : Int).toNat)).n = (g2 q_1).n ∧ (g2 ((0 : Nat) + (↑n1_1 : Int).toNat)).o = (g2 q_1).o ∧ (0 : Nat) + (↑n3 : Int).toNat < (g2 q_1).len ∧ br (!eqS (F1 q ((0 : Nat) + (↑n3 : Int).toNat)) (F2 q_1 ((0 : Nat) + (↑n3 : Int).toNat))) (R (AV.v (Value.bool false))) (∃ (x' : Nat), (x' ≤ (g1 (↑n1_1 : Int).toNat).len ∧ ∀ (j : Nat), j < x' → F1 (↑n1_1 : Int).toNat j = F2 (↑n1_1 : Int).toNat j) ∧ (g1 (↑n1_1 : Int).toNat).len - x' < (g1 (↑n1_1 : Int).toNat).len - n3 ∧ ((AV.v (Value.int IntKind.i64 (IntKind.i64.wrap ((↑n3 : Int) + (1 : Int))))).den = (AV.v (Value.int IntKind.i64 (↑x' : Int))).den ∧ (AV.os (0 : Nat) a1 n1 o1 (0 : Nat) (1 : Nat) L1 cap1).den = (AV.os (0 : Nat) a1 n1 o1 (0 : Nat) (1 : Nat) L1 cap1).den ∧ (AV.os (1 : Nat) a2 n2 o2 (0 : Nat) (1 : Nat) L2 cap2).den = (AV.os (1 : Nat) a2 n2 o2 (0 : Nat) (1 : Nat) L2 cap2).den ∧ (AV.v (Value.int IntKind.i64 (↑n1_1 : Int))).den = (AV.v (Value.int IntKind.i64 (↑n1_1 : Int))).den ∧ True) ∧ LeH [Blk.mk n1 (Cont.texts o1 L1 g1 F1 S1 false) false, Blk.mk n2 (Cont.texts o2 L2 g2 F2 S2 false) false] [Blk.mk n1 (Cont.texts o1 L1 g1 F1 S1 false) false, Blk.mk n2 (Cont.texts o2 L2 g2 F2 S2 false) false])) (∃ (x' : Nat), (x' ≤ L1 ∧ ∀ (p : Nat), p < x' → rowEq g1 g2 F1 F2 p) ∧ L1 - x' < L1 - n1_1 ∧ ((AV.v (Value.int IntKind.i64 (IntKind.i64.wrap ((↑n1_1 : Int) + (1 : Int))))).den = (AV.v (Value.int IntKind.i64 (↑x' : Int))).den ∧ (AV.os (0 : Nat) a1 n1 o1 (0 : Nat) (1 : Nat) L1 cap1).den = (AV.os (0 : Nat) a1 n1 o1 (0 : Nat) (1 : Nat) L1 cap1).den ∧ (AV.os (1 : Nat) a2 n2 o2 (0 : Nat) (1 : Nat) L2 cap2).den = (AV.os (1 : Nat) a2 n2 o2 (0 : Nat) (1 : Nat) L2 cap2).den ∧ True) ∧ LeH [Blk.mk n1 (Cont.texts o1 L1 g1 F1 S1 false) false, Blk.mk n2 (Cont.texts o2 L2 g2 F2 S2 false) false] [Blk.mk n1 (Cont.texts o1 L1 g1 F1 S1 false) false, Blk.mk n2 (Cont.texts o2 L2 g2 F2 S2 false) false]))) (R (AV.v (Value.bool true)))))) : LC Tryd.prog 14 [.os 0 a1 n1 o1 0 1 L1 cap1, .os 1 a2 n2 o2 0 1 L2 cap2] [⟨n1, .texts o1 L1 g1 F1 S1 false, false⟩, ⟨n2, .texts o2 L2 g2 F2 S2 false, false⟩] (fun z_ _ => R z_) :=
  lc_of_exec (tbl := []) tab_ok trivial mixed ((samJ L1 g1 g2 F1 F2)) 2 _ Tryd.func14 rfl Tryd.ntmps14 (by decide) (by kernel_rfl) (Nat.le_of_ble_eq_true rfl) (@Eq.mpr (execN tab [] ((samJ L1 g1 g2 F1 F2)) 2 Tryd.f14.ntmps [] none 0 (body Tryd.f14) (argsT [.os 0 a1 n1 o1 0 1 L1 cap1, .os 1 a2 n2 o2 0 1 L2 cap2] 0) [⟨n1, .texts o1 L1 g1 F1 S1 false, false⟩, ⟨n2, .texts o2 L2 g2 F2 S2 false, false⟩] (post Tryd.f14 tab (retK (fun z_ _ => R z_)))) _ (by kernel_rfl) h)

end Go.Proofs.YtdokphikobfakaaDoor

namespace Go.Sp
open Go.Eng Go.Proofs.YtdokphikobfakaaDoor

/-- What Read tells, in one. -/
def rdS (s : ByteArray) (c : Int) (rs : List (List ByteArray)) (b code : Int) : Prop :=
  (¬ sepOk c ∧ rs = [] ∧ b = 0 ∧ code = 2) ∨
  (sepOk c ∧ rowsF s c.toNat.toUInt8 0 = none ∧ rs = [] ∧ 0 ≤ b ∧ b ≤ (s.size : Int) ∧ code = 13) ∨
  (sepOk c ∧ (∃ rs', rowsF s c.toNat.toUInt8 0 = some rs' ∧ bigR rs') ∧ rs = [] ∧ b = 0 ∧ code = 7) ∨
  (sepOk c ∧ rowsF s c.toNat.toUInt8 0 = some rs ∧ ¬ bigR rs ∧ b = 0 ∧ code = 0)

open Classical in
theorem sameV_yes {L1 L2 : Nat} {g1 g2 : Nat → RW} {F1 F2 : Nat → Nat → ByteArray} (h : sameP L1 L2 g1 g2 F1 F2) : sameV L1 L2 g1 g2 F1 F2 = true := by
  unfold sameV; exact decide_eq_true h
open Classical in
theorem sameV_no {L1 L2 : Nat} {g1 g2 : Nat → RW} {F1 F2 : Nat → Nat → ByteArray} (h : ¬ sameP L1 L2 g1 g2 F1 F2) : sameV L1 L2 g1 g2 F1 F2 = false := by
  unfold sameV; exact decide_eq_false h

end Go.Sp
namespace Go.Eng
open Go.Sp Go.Proofs.YtdokphikobfakaaDoor

def sameH : Handler := fun _ args H K =>
  match args with
  | [.os i1 _ n1 o1 0 1 L1 _, .os i2 _ n2 o2 0 1 L2 _] => ∃ (g1 g2 : Nat → RW) (F1 F2 : Nat → Nat → ByteArray) (S1 S2 : List Nat) (w1 w2 : Bool), nth H i1 = some ⟨n1, .texts o1 L1 g1 F1 S1 false, w1⟩ ∧ nth H i2 = some ⟨n2, .texts o2 L2 g2 F2 S2 false, w2⟩ ∧ i1 ≠ i2 ∧ (L1 ≤ 1099511627776 ∧ ∀ i, i < L1 → (g1 i).len ≤ 1099511627776) ∧ K (.ret (.v (.bool (sameV L1 L2 g1 g2 F1 F2)))) H
  | _ => False

def rdH : Handler := fun _ args H K =>
  match args with
  | [.v (.string s), .v (.int .u8 c)] => (0 ≤ c ∧ c ≤ 255 ∧ s.size ≤ 268435456) ∧ ∀ (rs : List (List ByteArray)) (b code : Int) (g : Nat → RW) (a : Option Addr) (n cap : Nat) (S : List Nat), rdS s c rs b code → (∀ i, i < rs.length → (g i).len = (rs.getD i []).length) →
      K (.ret (.tup [.os H.length a n 0 0 1 rs.length cap, .v (.int .i64 b), .v (.int .i64 code)])) (H ++ [⟨n, .texts 0 rs.length g (atR rs) S false, true⟩])
  | _ => False

end Go.Eng
namespace Go.Proofs.YtdokphikobfakaaDoor
open Go Go.Eng Go.Sp
set_option linter.unusedVariables false
set_option linter.unusedSimpArgs false

theorem sam_lc (a1 a2 : Option Addr) (n1 o1 L1 cap1 n2 o2 L2 cap2 : Nat) (g1 g2 : Nat → RW) (F1 F2 : Nat → Nat → ByteArray) (S1 S2 : List Nat) (hL : L1 ≤ 1099511627776) (hg : ∀ i, i < L1 → (g1 i).len ≤ 1099511627776) :
    LC Tryd.prog 14 [.os 0 a1 n1 o1 0 1 L1 cap1, .os 1 a2 n2 o2 0 1 L2 cap2] [⟨n1, .texts o1 L1 g1 F1 S1 false, false⟩, ⟨n2, .texts o2 L2 g2 F2 S2 false, false⟩] (fun z _ => z = .v (.bool (sameV L1 L2 g1 g2 F1 F2))) :=
  sam0_vc a1 a2 n1 o1 L1 cap1 n2 o2 L2 cap2 g1 g2 F1 F2 S1 S2 (by
    simp only [true_and, and_true]
    refine br_intro (fun hne => ?_) (fun heq => ?_)
    · rw [sameV_no fun h => by rw [h.1] at hne; simp at hne]
    have hL2 : L1 = L2 := by have := bne_eq_false_iff_eq.1 heq; omega
    refine ⟨⟨0, ⟨Nat.zero_le _, fun p hp => absurd hp (Nat.not_lt_zero _)⟩, rfl, LeH.refl _⟩, fun i hi => br_intro (fun hlt => ?_) (fun hge => ?_)⟩
    rotate_left
    · have hiL : i = L1 := by have := of_decide_eq_false hge; have := hi.1; omega
      rw [sameV_yes ⟨hL2, fun p hp => hi.2 p (by omega)⟩]
    obtain ⟨i1, i2⟩ := hi
    have hlt : i < L1 := by have := of_decide_eq_true hlt; omega
    have hgi := hg i hlt
    simp only [Int.toNat_natCast, Nat.zero_add]
    refine ⟨⟨by omega, by omega⟩, hlt, ⟨by omega, by omega⟩, by omega, br_intro (fun hne => ?_) (fun hle => ?_)⟩
    · rw [sameV_no fun h => by rw [(h.2 i hlt).1] at hne; simp at hne]
    have hlen : (g1 i).len = (g2 i).len := by have := bne_eq_false_iff_eq.1 hle; omega
    refine ⟨⟨0, ⟨Nat.zero_le _, fun p hp => absurd hp (Nat.not_lt_zero _)⟩, rfl, LeH.refl _⟩, fun k hk => ⟨⟨by omega, by omega⟩, hlt, br_intro (fun hkl => ?_) (fun hkg => ?_)⟩⟩
    · obtain ⟨k1, k2⟩ := hk
      have hkl : k < (g1 i).len := by have := of_decide_eq_true hkl; omega
      refine ⟨⟨by omega, by omega⟩, hlt, ⟨by omega, by omega⟩, i, hlt, rfl, rfl, hkl, ⟨by omega, by omega⟩, by omega, ⟨by omega, by omega⟩, i, by omega, rfl, rfl, by omega, br_intro (fun hd => ?_) (fun hs => ?_)⟩
      · rw [sameV_no fun h => by rw [(h.2 i hlt).2 k hkl] at hd; simp [eqS] at hd]
      · have hs : F1 i k = F2 i k := eqS_iff.1 (by simpa using hs)
        refine ⟨k + 1, ⟨hkl, fun j hj => ?_⟩, by omega, i6_step (by omega), LeH.refl _⟩
        rcases Nat.lt_or_ge j k with h | h
        · exact k2 j h
        · obtain rfl : j = k := by omega
          exact hs
    · obtain ⟨k1, k2⟩ := hk
      have hkg : k = (g1 i).len := by have := of_decide_eq_false hkg; omega
      refine ⟨i + 1, ⟨hlt, fun p hp => ?_⟩, by omega, i6_step (by omega), LeH.refl _⟩
      rcases Nat.lt_or_ge p i with h | h
      · exact i2 p h
      · obtain rfl : p = i := by omega
        exact ⟨hlen, fun j hj => k2 j (by omega)⟩)

theorem sameH_ok : HOk Tryd.prog 14 sameH := HOk.of_read (enters_of (c := body Tryd.f14) Tryd.func14 rfl (by kernel_rfl)) fun rs args H K hk => by
  unfold sameH at hk
  split at hk
  · rename_i id1 a1 n1 o1 L1 cap1 id2 a2 n2 o2 L2 cap2
    obtain ⟨g1, g2, F1, F2, S1, S2, w1, w2, h1, h2, h3, ⟨h4, h5⟩, hk⟩ := hk
    refine ⟨_, [.os 0 a1 n1 o1 0 1 L1 cap1, .os 1 a2 n2 o2 0 1 L2 cap2], _, leAt (H := H) (H' := [⟨n1, .texts o1 L1 g1 F1 S1 false, false⟩, ⟨n2, .texts o2 L2 g2 F2 S2 false, false⟩]) [id1, id2] (by simp [h3]) ?_, rfl, rfl, (sam_lc a1 a2 n1 o1 L1 cap1 n2 o2 L2 cap2 g1 g2 F1 F2 S1 S2 h4 h5).mono fun r H' e => by rw [e], hk⟩
    simp only [pickH, h1, h2]
    exact ⟨texts_read, texts_read, trivial⟩
  · exact hk.elim

theorem nil_texts {H' : HH} : LeH H' [⟨0, .texts 0 0 (fun _ => ⟨0, 0, 0, 0, none⟩) (atR []) [] false, true⟩] := by
  have h1 := leAt (H := H') (H' := []) [] List.nodup_nil trivial
  exact h1.trans (LeH.more (H := []) (b := ⟨0, .texts 0 0 (fun _ => ⟨0, 0, 0, 0, none⟩) (atR []) [] false, true⟩) rfl fun w => ⟨fun k hk => (by cases hk), fun h => absurd h (Nat.lt_irrefl _), fun i hi => absurd hi (Nat.not_lt_zero _), fun h => (by cases h)⟩)

theorem rdH_ok : HOk Tryd.prog 13 rdH := HOk.of_make (enters_of (c := body Tryd.f13) Tryd.func13 rfl (by kernel_rfl)) fun rs args H K hk => by
  unfold rdH at hk
  split at hk
  · rename_i s c
    obtain ⟨⟨h1, h2, h3⟩, hk⟩ := hk
    refine ⟨[], [.v (.string s), .v (.int .u8 c)], _, leAt [] List.nodup_nil trivial, fun b hb => (by cases hb), rfl, rd_lc s c h1 h2 h3, fun z H' hz => ?_⟩
    have own1 : ∀ {n L : Nat} {g : Nat → RW} {F : Nat → Nat → ByteArray} {S : List Nat}, allOwn [⟨n, .texts 0 L g F S false, true⟩] := fun b hb => by cases List.mem_singleton.1 hb; rfl
    rcases hz with ⟨q1, rfl⟩ | ⟨q1, q2, b, q3, q4, rfl⟩ | ⟨rs, q1, q2, q3, rfl⟩ | ⟨rs, g, a, n, cap, S, q1, q2, q3, q4, rfl, q5⟩
    · exact ⟨.tup [.os H.length none 0 0 0 1 0 0, .v (.int .i64 0), .v (.int .i64 2)], _, rfl, nil_texts, own1, hk [] 0 2 (fun _ => ⟨0, 0, 0, 0, none⟩) none 0 0 [] (.inl ⟨q1, rfl, rfl, rfl⟩) fun i hi => absurd hi (Nat.not_lt_zero _)⟩
    · exact ⟨.tup [.os H.length none 0 0 0 1 0 0, .v (.int .i64 b), .v (.int .i64 13)], _, rfl, nil_texts, own1, hk [] b 13 (fun _ => ⟨0, 0, 0, 0, none⟩) none 0 0 [] (.inr (.inl ⟨q1, q2, rfl, q3, q4, rfl⟩)) fun i hi => absurd hi (Nat.not_lt_zero _)⟩
    · exact ⟨.tup [.os H.length none 0 0 0 1 0 0, .v (.int .i64 0), .v (.int .i64 7)], _, rfl, nil_texts, own1, hk [] 0 7 (fun _ => ⟨0, 0, 0, 0, none⟩) none 0 0 [] (.inr (.inr (.inl ⟨q1, ⟨rs, q2, q3⟩, rfl, rfl, rfl⟩))) fun i hi => absurd hi (Nat.not_lt_zero _)⟩
    · exact ⟨.tup [.os H.length a n 0 0 1 rs.length cap, .v (.int .i64 0), .v (.int .i64 0)], _, rfl, q5, own1, hk rs 0 0 g a n cap S (.inr (.inr (.inr ⟨q1, q2, q3, rfl, rfl⟩))) q4⟩
  · exact hk.elim
end Go.Proofs.YtdokphikobfakaaDoor

namespace Go.Sp
open Go.Eng Go.Proofs.YtdokphikobfakaaDoor

/-- Rows as written, with any ends. -/
def rowsE (c : UInt8) (g : Nat → RW) (F : Nat → Nat → ByteArray) (E : Nat → List UInt8) : Nat → List UInt8
  | 0 => []
  | i + 1 => rowsE c g F E i ++ fieldsL c (g i).len (F i) (g i).len ++ E i

theorem rowsE_ten (c : UInt8) (g : Nat → RW) (F : Nat → Nat → ByteArray) : ∀ L, rowsE c g F (fun _ => [10]) L = rowsL c g F L
  | 0 => rfl
  | L + 1 => by rw [rowsE, rowsL, rowsE_ten c g F L]

theorem rowsE_pre (c : UInt8) (g : Nat → RW) (F : Nat → Nat → ByteArray) (E : Nat → List UInt8) {i : Nat} : ∀ {L : Nat}, i ≤ L → ∃ Y, rowsE c g F E L = rowsE c g F E i ++ Y ∧ (i = L → Y = [])
  | 0, h => by obtain rfl : i = 0 := by omega
               exact ⟨[], by simp, fun _ => rfl⟩
  | L + 1, h => by
    rcases Nat.lt_or_ge i (L + 1) with h1 | h1
    · obtain ⟨Y, hY, _⟩ := rowsE_pre c g F E (i := i) (L := L) (by omega)
      exact ⟨Y ++ fieldsL c (g L).len (F L) (g L).len ++ E L, by rw [rowsE, hY]; simp, fun e => by omega⟩
    · obtain rfl : i = L + 1 := by omega
      exact ⟨[], by simp, fun _ => rfl⟩

theorem fieldsL_pre (c : UInt8) (n : Nat) (F : Nat → ByteArray) {k : Nat} : ∀ {m : Nat}, k ≤ m → ∃ Y, fieldsL c n F m = fieldsL c n F k ++ Y
  | 0, h => by obtain rfl : k = 0 := by omega
               exact ⟨[], by simp⟩
  | m + 1, h => by
    rcases Nat.lt_or_ge k (m + 1) with h1 | h1
    · obtain ⟨Y, hY⟩ := fieldsL_pre c n F (k := k) (m := m) (by omega)
      exact ⟨Y ++ (if m = 0 then [] else [c]) ++ fieldL c (Nat.beq n 1) (F m), by rw [fieldsL, hY]; simp⟩
    · obtain rfl : k = m + 1 := by omega
      exact ⟨[], by simp⟩

/-- What stands ahead of a field; ahead of what parts it from the one before. -/
def toK (c : UInt8) (g : Nat → RW) (F : Nat → Nat → ByteArray) (E : Nat → List UInt8) (i k : Nat) : List UInt8 := rowsE c g F E i ++ fieldsL c (g i).len (F i) k
def toS (c : UInt8) (g : Nat → RW) (F : Nat → Nat → ByteArray) (E : Nat → List UInt8) (i k : Nat) : List UInt8 := toK c g F E i k ++ (if k = 0 then [] else [c])

theorem toK_succ (c : UInt8) (g : Nat → RW) (F : Nat → Nat → ByteArray) (E : Nat → List UInt8) (i k : Nat) : toK c g F E i (k + 1) = toS c g F E i k ++ fieldL c (Nat.beq (g i).len 1) (F i k) := by
  simp [toK, toS, fieldsL, List.append_assoc]

/-- Where rows may end. -/
def endOk (E : Nat → List UInt8) (L : Nat) : Prop := ∀ i, i < L → E i = [10] ∨ E i = [13, 10] ∨ (i + 1 = L ∧ E i = [])

/-- What stands behind a field. -/
def behind (c : UInt8) (Z : List UInt8) : Prop := Z = [] ∨ ∃ d Y, Z = d :: Y ∧ (d = c ∨ d = 10 ∨ d = 13)

theorem at_more {c : UInt8} {g : Nat → RW} {F : Nat → Nat → ByteArray} {E : Nat → List UInt8} {L i k : Nat} (hi : i < L) (hk : k + 1 < (g i).len) : ∃ Y, rowsE c g F E L = toK c g F E i (k + 1) ++ c :: Y := by
  obtain ⟨Y, hY, _⟩ := rowsE_pre c g F E (i := i + 1) (L := L) hi
  obtain ⟨X, hX⟩ := fieldsL_pre c (g i).len (F i) (k := k + 2) (m := (g i).len) (by omega)
  refine ⟨fieldL c (Nat.beq (g i).len 1) (F i (k + 1)) ++ X ++ E i ++ Y, ?_⟩
  rw [hY, rowsE, hX, show k + 2 = (k + 1) + 1 from rfl, fieldsL, if_neg (by omega)]
  simp [toK, List.append_assoc]

theorem at_end {c : UInt8} {g : Nat → RW} {F : Nat → Nat → ByteArray} {E : Nat → List UInt8} {L i : Nat} (hE : endOk E L) (hi : i < L) : ∃ Y, rowsE c g F E L = toK c g F E i (g i).len ++ (E i ++ Y) ∧ (E i = [] → Y = []) ∧ rowsE c g F E (i + 1) = toK c g F E i (g i).len ++ E i := by
  obtain ⟨Y, hY, hY0⟩ := rowsE_pre c g F E (i := i + 1) (L := L) hi
  refine ⟨Y, by rw [hY, rowsE]; simp [toK], fun e => ?_, by rw [rowsE]; rfl⟩
  rcases hE i hi with h | h | ⟨h, _⟩
  · rw [h] at e; cases e
  · rw [h] at e; cases e
  · exact hY0 h

theorem quoted_quote {Z : List UInt8} (hZ : Z.head? ≠ some 34) : ∀ l : List UInt8, quotedL (quoteL l ++ 34 :: Z) = some (l, Z)
  | [] => quotedL_end hZ (h := []) (by simp)
  | b :: l => by
    have ih := quoted_quote hZ l
    rw [quoteL]
    split
    · rename_i hb
      subst hb
      rw [List.cons_append, List.cons_append, quotedL_two, ih]; rfl
    · rename_i hb
      rw [List.cons_append, quotedL_ne hb, ih]; rfl

theorem behind_head {c : UInt8} {Z : List UInt8} (hc : c ≠ 34) (h : behind c Z) : Z.head? ≠ some 34 := by
  rcases h with rfl | ⟨d, Y, rfl, hd⟩
  · simp
  · rw [List.head?_cons]
    intro e
    cases e
    rcases hd with h | h | h
    · exact hc h.symm
    · exact absurd h (by decide)
    · exact absurd h (by decide)

/-- A field that was written is read. -/
theorem field_read {s : ByteArray} {c : UInt8} {p : Nat} {al : Bool} {f : ByteArray} {Z : List UInt8} (hc : c ≠ 34) (hd : s.data.toList.drop p = fieldL c al f ++ Z) (hz : s.size = p + (fieldL c al f).length + Z.length) (hZ : behind c Z) : fR s c p = ⟨f, p + (fieldL c al f).length, -1⟩ := by
  have hh := behind_head hc hZ
  cases hn : needsB f al c with
  | true =>
    rw [fieldL_yes hn] at hd hz ⊢
    unfold fR
    rw [hd, if_pos (by rfl)]
    have h1 : s.data.toList.drop (p + 1) = quoteL f.data.toList ++ 34 :: Z := by
      rw [← List.drop_drop, hd]; simp
    have hq : quotedL (s.data.toList.drop (p + 1)) = some (f.data.toList, Z) := by rw [h1, quoted_quote hh]
    rw [qR_some hq, mkS_toList]
    congr 1
    omega
  | false =>
    rw [fieldL_no hn] at hd hz ⊢
    have hno : ∀ b ∈ f.data.toList, plainB c b = true := fun b hb => by
      have h1 : b ≠ c := fun e => by
        have := needsB_iff (s := f) (alone := al) (c := c)
        rw [hn] at this
        exact absurd (this.2 (.inr (.inl (e ▸ hb)))) (by decide)
      have h2 : ¬ isSign b := fun e => by
        have := needsB_iff (s := f) (alone := al) (c := c)
        rw [hn] at this
        exact absurd (this.2 (.inr (.inr ⟨b, hb, e⟩))) (by decide)
      have h3 := noSign_iff.2 h2
      show (!(b == c) && noSign b) = true
      rw [h3]; simp [h1]
    have htw : (s.data.toList.drop p).takeWhile (plainB c) = f.data.toList := by
      rw [hd]
      rcases hZ with rfl | ⟨d, Y, rfl, hd'⟩
      · rw [List.append_nil]; exact tw_all hno
      · refine tw_cut ?_ hno
        show (!(d == c) && noSign d) = false
        rcases hd' with rfl | rfl | rfl
        · simp
        · simp [noSign]
        · simp [noSign]
    have hne : ¬ (s.data.toList.drop p).head? = some 34 := by
      rw [hd]
      cases hf : f.data.toList with
      | nil => rw [List.nil_append]; exact hh
      | cons b l =>
        rw [List.cons_append, List.head?_cons]
        intro e; cases e
        have := hno 34 (by rw [hf]; exact List.mem_cons_self)
        simp [plainB] at this
    have hdd : s.data.toList.drop (p + f.data.toList.length) = Z := by
      rw [← List.drop_drop, hd]; simp
    unfold fR
    rw [if_neg hne]
    unfold pR
    simp only [htw, hdd]
    rw [if_neg hh, mkS_toList]

section
variable {c : UInt8} {g : Nat → RW} {F : Nat → Nat → ByteArray} {E : Nat → List UInt8} {L : Nat} {s : ByteArray}

/-- A row that was written is read. -/
theorem row_read (hc : c ≠ 34) (h10 : c ≠ 10) (h13 : c ≠ 13) (hE : endOk E L) (hs : s.data.toList = rowsE c g F E L) {i : Nat} (hi : i < L) : ∀ {n k : Nat}, k + n + 1 = (g i).len → rowF s c (toS c g F E i k).length = some ((List.range' k (n + 1)).map (F i), (toK c g F E i (g i).len).length)
  | n, k, hk => by
    have hsl : s.data.toList.length = s.size := Array.length_toList
    cases n with
    | zero =>
      have hk1 : k + 1 = (g i).len := by omega
      obtain ⟨Y, hY, hY0, _⟩ := at_end (c := c) (g := g) (F := F) hE hi
      have hT := hY
      rw [← hk1, toK_succ] at hT
      have hlen := congrArg List.length hT
      rw [← hs, hsl] at hlen
      simp only [List.length_append] at hlen
      have hZ : behind c (E i ++ Y) := by
        rcases hE i hi with h | h | ⟨_, h⟩
        · rw [h]; exact .inr ⟨10, Y, rfl, .inr (.inl rfl)⟩
        · rw [h]; exact .inr ⟨13, 10 :: Y, rfl, .inr (.inr rfl)⟩
        · rw [h, hY0 h]; exact .inl rfl
      have hv := field_read (p := (toS c g F E i k).length) (al := Nat.beq (g i).len 1) (f := F i k) hc (by rw [hs, hT, List.append_assoc]; simp) (by rw [List.length_append]; omega) hZ
      have hpos : (toS c g F E i k).length + (fieldL c (Nat.beq (g i).len 1) (F i k)).length = (toK c g F E i (g i).len).length := by
        rw [← hk1, toK_succ, List.length_append, hk1]
      rw [rowF_end hv rfl fun h => ?_]
      · rw [hpos]; rfl
      · have h2 := h.2
        rw [show ({ t := F i k, pos := (toS c g F E i k).length + (fieldL c (Nat.beq (g i).len 1) (F i k)).length, bad := -1 } : FR).pos = (toK c g F E i (g i).len).length from hpos, hs, hY, List.getElem?_append_right (Nat.le_refl _), Nat.sub_self] at h2
        rcases hE i hi with h | h | ⟨_, h⟩
        · rw [h] at h2; simp at h2; exact h10 h2.symm
        · rw [h] at h2; simp at h2; exact h13 h2.symm
        · rw [h, hY0 h] at h2; cases h2
    | succ n =>
      obtain ⟨Y, hY⟩ := at_more (c := c) (g := g) (F := F) (E := E) (L := L) hi (k := k) (by omega)
      have hT := hY
      rw [toK_succ] at hT
      have hlen := congrArg List.length hT
      rw [← hs, hsl] at hlen
      simp only [List.length_append, List.length_cons] at hlen
      have hv := field_read (p := (toS c g F E i k).length) (al := Nat.beq (g i).len 1) (f := F i k) hc (by rw [hs, hT, List.append_assoc]; simp) (by rw [List.length_cons]; omega) (.inr ⟨c, Y, rfl, .inl rfl⟩)
      have hpos : (toS c g F E i k).length + (fieldL c (Nat.beq (g i).len 1) (F i k)).length = (toK c g F E i (k + 1)).length := by
        rw [toK_succ, List.length_append]
      rw [hpos] at hv
      have hby : s.data.toList[(toK c g F E i (k + 1)).length]? = some c := by
        rw [hs, hY, List.getElem?_append_right (Nat.le_refl _), Nat.sub_self]; rfl
      have hnx : (toK c g F E i (k + 1)).length + 1 = (toS c g F E i (k + 1)).length := by
        rw [toS, if_neg (by omega), List.length_append]; rfl
      rw [rowF_more hv rfl (by show (toK c g F E i (k + 1)).length < s.size; omega) hby (by show _ ≤ (toK c g F E i (k + 1)).length; omega)]
      show Option.map _ (rowF s c ((toK c g F E i (k + 1)).length + 1)) = _
      rw [hnx, row_read hc h10 h13 hE hs hi (n := n) (k := k + 1) (by omega)]
      rfl

/-- Rows that were written are read. -/
theorem rows_read (hc : c ≠ 34) (h10 : c ≠ 10) (h13 : c ≠ 13) (hf : full L g) (hE : endOk E L) (hs : s.data.toList = rowsE c g F E L) : ∀ {n i : Nat}, i + n = L → rowsF s c (rowsE c g F E i).length = some ((List.range' i n).map fun i => (List.range' 0 (g i).len).map (F i))
  | 0, i, h => by
    have hsl : s.data.toList.length = s.size := Array.length_toList
    rw [rowsF_end (by rw [← hsl, hs, show i = L by omega]; exact Nat.le_refl _)]
    rfl
  | n + 1, i, h => by
    have hsl : s.data.toList.length = s.size := Array.length_toList
    have hi : i < L := by omega
    have hlen := hf i hi
    have h0 : (toS c g F E i 0) = rowsE c g F E i := by simp [toS, toK, fieldsL]
    have hrow := row_read (k := 0) (n := (g i).len - 1) hc h10 h13 hE hs hi (by omega)
    rw [h0, show (g i).len - 1 + 1 = (g i).len by omega] at hrow
    obtain ⟨Y, hY, hY0, hnext⟩ := at_end (c := c) (g := g) (F := F) hE hi
    have hsz := congrArg List.length hY
    rw [← hs, hsl, List.length_append] at hsz
    have hdrop : s.data.toList.drop (toK c g F E i (g i).len).length = E i ++ Y := by rw [hs, hY]; simp
    have hnl := congrArg List.length hnext
    rw [List.length_append] at hnl
    -- the row is not empty
    have hne : (rowsE c g F E i).length < (toK c g F E i (g i).len).length := by
      rcases Nat.lt_or_ge 1 (g i).len with h2 | h2
      · have e : (toK c g F E i (g i).len).length = (rowsE c g F E i).length + (fieldsL c (g i).len (F i) (g i).len).length := by rw [toK, List.length_append]
        obtain ⟨X, hX⟩ := fieldsL_pre c (g i).len (F i) (k := 2) (m := (g i).len) h2
        have := congrArg List.length hX
        rw [show (2 : Nat) = 1 + 1 from rfl, fieldsL, if_neg (by decide)] at this
        simp only [List.length_append, List.length_cons, List.length_nil] at this
        omega
      · have h1 : (g i).len = 1 := by omega
        rw [h1, toK_succ, h0, List.length_append, h1]
        have : 0 < (fieldL c (Nat.beq 1 1) (F i 0)).length := by
          cases hn : needsB (F i 0) (Nat.beq 1 1) c with
          | true => rw [fieldL_yes hn]; simp
          | false =>
            rw [fieldL_no hn]
            have hsl2 : (F i 0).data.toList.length = (F i 0).size := Array.length_toList
            rw [hsl2]
            apply Nat.pos_of_ne_zero
            intro e
            have := needsB_iff (s := F i 0) (alone := Nat.beq 1 1) (c := c)
            rw [hn] at this
            exact absurd (this.2 (.inl ⟨rfl, e⟩)) (by decide)
        omega
    have hend : eR s (toK c g F E i (g i).len).length = ⟨ByteArray.mk #[], (rowsE c g F E (i + 1)).length, -1⟩ := by
      unfold eR
      rw [hdrop, hnl]
      rcases hE i hi with h | h | ⟨_, h⟩
      · rw [h]; cases Y <;> simp
      · rw [h]; simp
      · rw [h, hY0 h]; simp
    have hlt : (rowsE c g F E i).length < s.size := by omega
    rw [rowsF_more hlt hrow (by rw [hend]) (by rw [hend]; show _ < (rowsE c g F E (i + 1)).length; omega), hend]
    show Option.map _ (rowsF s c (rowsE c g F E (i + 1)).length) = _
    rw [rows_read hc h10 h13 hf hE hs (n := n) (i := i + 1) (by omega)]
    rfl

end

/-- Rows, as lists. -/
def listR (g : Nat → RW) (F : Nat → Nat → ByteArray) (L : Nat) : List (List ByteArray) := (List.range' 0 L).map fun i => (List.range' 0 (g i).len).map (F i)

theorem listR_get {g : Nat → RW} {F : Nat → Nat → ByteArray} {L i : Nat} (hi : i < L) : (listR g F L).getD i [] = (List.range' 0 (g i).len).map (F i) := by
  unfold listR
  rw [List.getD_eq_getElem?_getD, List.getElem?_map, List.getElem?_range' hi]
  simp
theorem listR_len (g : Nat → RW) (F : Nat → Nat → ByteArray) (L : Nat) : (listR g F L).length = L := by simp [listR]
theorem listR_at {g : Nat → RW} {F : Nat → Nat → ByteArray} {L i j : Nat} (hi : i < L) (hj : j < (g i).len) : atR (listR g F L) i j = F i j := by
  unfold atR
  rw [listR_get hi]
  unfold atS
  rw [List.getElem?_map, List.getElem?_range' hj]
  simp
theorem listR_row {g : Nat → RW} {F : Nat → Nat → ByteArray} {L i : Nat} (hi : i < L) : ((listR g F L).getD i []).length = (g i).len := by rw [listR_get hi]; simp

end Go.Sp

