/- Csv: the document's Write: what it tells. -/
import Derived.Test.YtdokphikobfakaaDoorM
namespace Go.Proofs.YtdokphikobfakaaDoor
open Go Go.Eng Go.Sp
set_option linter.unusedVariables false
set_option linter.unusedSimpArgs false

theorem i6_step {i : Nat} (h : i ≤ 4611686018427387904) : (AV.v (Value.int IntKind.i64 (IntKind.i64.wrap ((i : Int) + 1)))).den = (AV.v (Value.int IntKind.i64 ((i + 1 : Nat) : Int))).den := by
  rw [w64 (by omega)]; rfl
theorem os_den {id n i sz len len' cap : Nat} {a : Option Addr} {o : Nat} (h : len = len') : (AV.os id a n o i sz len cap).den = (AV.os id a n o i sz len' cap).den := by rw [h]
theorem empty_to {a : Option Addr} {n len len' cap : Nat} (he : emptyOk a n len cap) (h : len = len') : emptyOk a n len' cap := h ▸ he
theorem size_list {B : ByteArray} : B.data.toList.length = B.size := Array.length_toList
theorem bsize {B : ByteArray} {l : List UInt8} (h : B.data.toList = l) : B.size = l.length := by rw [← h, size_list]

/-- A list of bytes behind what was known of it. -/
theorem leBytes {n N : Nat} {B : ByteArray} {g : Nat → Int} {S : List Nat} {cap : Nat} (hN : B.size = N) (h : ∀ i, i < B.size → byteAt B i = g i) : LeB ⟨n, .lst 0 N [.ints .u8 g] S (some (cap, 5)), true⟩ (lB n B cap S) := by
  subst hN
  exact LeB.ints (Nat.le_refl _) (fun h => h) (.inr rfl) h

theorem read_all {B : ByteArray} : mkI ((List.range B.size).map fun i => byteAt B (0 + i)) = mkS B.data.toList := by
  unfold mkI mkS
  congr 1
  apply congrArg
  rw [List.map_map]
  apply List.ext_getElem
  · simp [size_list]
  · intro i h1 h2
    simp only [List.length_map, List.length_range] at h1
    have h3 : B.data.toList[i]? = some (B.data.toList[i]'(by rw [size_list]; exact h1)) := List.getElem?_eq_getElem _
    simp only [List.getElem_map, List.getElem_range, Function.comp, Nat.zero_add, byteAt, h3, Option.getD_some, Int.toNat_natCast]
    simp

set_option maxRecDepth 20000 in
set_option maxHeartbeats 8000000 in
theorem rwr_lc (a : Option Addr) (n o L cap : Nat) (g : Nat → RW) (F : Nat → Nat → ByteArray) (S : List Nat) (c : Int) (h0 : 0 ≤ c) (h1 : c ≤ 255) (hL : L ≤ 1099511627776) (hT : (rowsL c.toNat.toUInt8 g F L).length ≤ 1099511627776)
    (hlen : ∀ i, i < L → (g i).len ≤ 1099511627776) :
    LC Tryd.prog 9 [.os 0 a n o 0 1 L cap, .v (.int .u8 c)] [⟨n, .texts o L g F S false, false⟩] (fun z _ => z = wrV c L g F) :=
  rwr0_vc a n o L cap g F S c (by
    generalize hcu : c.toNat.toUInt8 = cu at hT ⊢
    refine br_intro (fun c0 => br_intro (fun c1 => br_intro (fun c2 => br_intro (fun c3 => ?_) (fun c3 => ?_)) (fun c2 => ?_)) (fun c1 => ?_)) (fun c0 => ?_)
    · refine (wrV_arg (.inl fun h => ?_)).symm
      simp at c3; exact h.2.2.2 c3
    rotate_left
    · refine (wrV_arg (.inl fun h => ?_)).symm
      simp at c2; exact h.2.2.1 c2
    · refine (wrV_arg (.inl fun h => ?_)).symm
      simp at c1; exact h.2.1 c1
    · refine (wrV_arg (.inl fun h => ?_)).symm
      simp at c0; exact h.1 c0
    have hsep : sepOk c := by simp at c0 c1 c2 c3; exact ⟨c0, c1, c2, c3⟩
    refine ⟨⟨0, ⟨Nat.zero_le _, fun q hq => absurd hq (Nat.not_lt_zero _)⟩, ⟨rfl, rfl, rfl, trivial⟩, LeH.refl _⟩, fun i hi => br_intro (fun hlt => ?_) (fun hge => ?_)⟩
    · have hlt : i < L := by have := of_decide_eq_true hlt; omega
      simp only [Int.toNat_natCast, Nat.zero_add]
      refine ⟨⟨by omega, by omega⟩, trivial, trivial, hlt, br_intro (fun hz => ?_) (fun hz => ⟨i + 1, ⟨hlt, fun q hq => ?_⟩, by omega, ⟨i6_step (by omega), trivial, trivial, trivial⟩, LeH.refl _⟩)⟩
      · refine (wrV_arg (.inr fun h => ?_)).symm
        have := h i hlt
        simp at hz; omega
      · rcases Nat.lt_or_ge q i with h3 | h3
        · exact hi.2 q h3
        · obtain rfl : q = i := by omega
          simp at hz; omega
    have hfull : full L g := by
      have := of_decide_eq_false hge
      obtain rfl : i = L := by have := hi.1; omega
      exact hi.2
    refine br_intro (fun hbig => ?_) (fun hbig => ⟨g, F, S, false, rfl, by omega, br_intro (fun hw => ?_) (fun hw => ?_)⟩)
    · exact (wrV_big hsep hfull (.inl (by have := of_decide_eq_true hbig; omega))).symm
    · exact (wrV_big hsep hfull (.inr (by have := of_decide_eq_true hw; omega))).symm
    have hsm : ¬ (1048576 < L ∨ 16384 < wideN g L) := by
      have := of_decide_eq_false hbig
      have := of_decide_eq_false hw
      omega
    have e0 : ((0 : Int)).toNat = 0 := rfl
    refine ⟨⟨⟨0, none, 0, ByteArray.mk #[], 0, []⟩, ⟨Nat.zero_le _, fun _ => .inl rfl, rfl⟩, ⟨rfl, rfl, rfl, rfl, trivial⟩, LeH.more rfl fun w => lst_nil (.inr ⟨_, rfl, rfl⟩)⟩, fun x hx => br_intro (fun hlt => ?_) (fun hge => ?_)⟩
    rotate_left
    · -- all is written
      obtain ⟨x1, x2, x3⟩ := hx
      have hxi : x.i = L := by have := of_decide_eq_false hge; omega
      rw [wrV_ok hsep hfull hsm, hcu, ← hxi, ← x3]
      refine ⟨rfl, rfl, by omega, ?_⟩
      rw [read_all]
    obtain ⟨x1, x2, x3⟩ := hx
    have hr : x.i < L := by have := of_decide_eq_true hlt; omega
    have hlr := hlen x.i hr
    simp only [Int.toNat_natCast, Nat.zero_add]
    refine ⟨⟨⟨0, x.a, x.n, x.B, x.cap, x.S⟩, ⟨Nat.zero_le _, x2, by rw [upTo_zero]; exact x3⟩, ⟨rfl, rfl, trivial, trivial, trivial, trivial⟩, LeH.refl _⟩, fun y hy => ⟨⟨by omega, by omega⟩, trivial, trivial, hr, br_intro (fun hlt => ?_) (fun hge => ?_)⟩⟩
    rotate_left
    · -- the row ends
      obtain ⟨y1, y2, y3⟩ := hy
      have hyk : y.i = (g x.i).len := by have := of_decide_eq_false hge; omega
      have hyl := bsize y3
      have hroom := upTo_len cu g F (L := L) hr y1
      intro n11
      refine ⟨trivial, trivial, trivial, trivial, Nat.le_refl _, trivial, y2, ⟨by omega, by omega⟩, fun a' n13 n14 S' g1 g2 => ⟨⟨x.i + 1, a', n13, pushB y.B 10, n14, S'⟩, ⟨hr, empty_to g2 (size_pushB _ _).symm, ?_⟩, by show L - (x.i + 1) < L - x.i; omega, ⟨os_den (size_pushB _ _).symm, i6_step (by omega), trivial, trivial, trivial⟩, leAt [0, 1] (by decide) ⟨LeB.refl _, leBytes (size_pushB _ _) fun i hi => (joinOne (B := y.B) (c := 10) (m := y.B.size) (by decide) (by decide) rfl).symm, trivial⟩⟩⟩
      show (pushB y.B 10).data.toList = _
      rw [toList_pushB, y3, rowsL_succ, hyk]
    obtain ⟨y1, y2, y3⟩ := hy
    have hk : y.i < (g x.i).len := by have := of_decide_eq_true hlt; omega
    have hyl := bsize y3
    have hroom := upTo_len cu g F (L := L) hr y1
    have hfr := field_room (c := cu) (F := F) hr hk
    have hcu2 : cu.toNat = c.toNat := by rw [← hcu]; simp; omega
    have hcI : (cu.toNat : Int) = c := by rw [hcu2]; omega
    refine br_intro (fun hpos => ?_) (fun hpos => ?_)
    · -- not the first field of its row
      have hk0 : y.i ≠ 0 := by have := of_decide_eq_true hpos; omega
      have hus : upSep cu g F x.i y.i = upTo cu g F x.i y.i ++ [cu] := by rw [upSep, if_neg hk0]
      intro n11
      refine ⟨trivial, trivial, trivial, trivial, Nat.le_refl _, trivial, y2, ⟨by omega, by omega⟩, fun a1 p1 q1 S1 g1 g2 => ?_⟩
      have hB : (pushB y.B cu).data.toList = upSep cu g F x.i y.i := by rw [toList_pushB, y3, hus]
      have hBs := bsize hB
      have hBs2 : (pushB y.B cu).size = y.B.size + 1 := size_pushB _ _
      have j1 : ∀ i, (if i < y.B.size then byteAt y.B i else if i < y.B.size + 1 then (match asI IntKind.u8 ((nth [AV.v (Value.int IntKind.u8 c)] ((i - y.B.size) * 1 + 0)).getD (AV.v undef)) with | some x => x | none => 0) else 0) = byteAt (pushB y.B cu) i := fun i => by rw [← hcu]; exact joinOne h0 h1 rfl
      have hge := fieldL_ge cu (Nat.beq (g x.i).len 1) (F x.i y.i)
      refine ⟨⟨by omega, by omega⟩, trivial, trivial, hr, ⟨by omega, by omega⟩, x.i, hr, rfl, rfl, hk, ⟨by omega, by omega⟩, trivial, trivial, hr, ⟨h0, h1, by omega⟩, ?_⟩
      have hbeq : ((((g x.i).len : Int) == 1)) = Nat.beq (g x.i).len 1 := by
        rw [Bool.eq_iff_iff, beq_iff_eq, Nat.beq_eq]; omega
      rw [hbeq]
      refine br_intro (fun hn => ?_) (fun hn => ?_)
      · -- as it is
        have hn : needsB (F x.i y.i) (Nat.beq (g x.i).len 1) cu = false := by simpa using hn
        rw [fieldL_no hn, size_list] at hfr
        have hz : (catS (pushB y.B cu) (F x.i y.i)).size = y.B.size + 1 + (F x.i y.i).size := by rw [size_catS, size_pushB]
        refine ⟨trivial, trivial, trivial, Nat.le_refl _, trivial, g2, ⟨by omega, by omega⟩, fun a2 p2 q2 S2 g3 g4 => ⟨⟨y.i + 1, a2, p2, catS (pushB y.B cu) (F x.i y.i), q2, S2⟩, ⟨hk, empty_to g4 hz.symm, ?_⟩, by show (g x.i).len - (y.i + 1) < (g x.i).len - y.i; omega, ⟨i6_step (by omega), os_den hz.symm, trivial, trivial, trivial, trivial⟩, leAt [0, 1] (by decide) ⟨LeB.refl _, leBytes hz fun i hi => ?_, trivial⟩⟩⟩
        · show (catS (pushB y.B cu) (F x.i y.i)).data.toList = _
          rw [toList_catS, hB, upTo_succ, fieldL_no hn]
        · exact (congrArg (fun u => if i < y.B.size + 1 then u else if i < y.B.size + 1 + (F x.i y.i).size then byteAt (F x.i y.i) (i - (y.B.size + 1)) else 0) (j1 i)).trans (joinStr (B := pushB y.B cu) (s := F x.i y.i) (m := y.B.size + 1) (i := i) (size_pushB _ _).symm) |>.symm
      · -- in quotes
        have hn : needsB (F x.i y.i) (Nat.beq (g x.i).len 1) cu = true := by simpa using hn
        rw [fieldL_yes hn] at hfr
        simp only [List.length_append, List.length_cons, List.length_nil] at hfr
        have hqg := quoteL_ge (F x.i y.i).data.toList
        rw [size_list] at hqg
        intro n19
        have hz : (pushB (pushB y.B cu) 34).size = y.B.size + 1 + 1 := by rw [size_pushB, size_pushB]
        refine ⟨trivial, trivial, trivial, trivial, Nat.le_refl _, trivial, g2, ⟨by omega, by omega⟩, fun a2 p2 q2 S2 g3 g4 => ⟨⟨⟨0, a2, p2, pushB (pushB y.B cu) 34, q2, S2⟩, ⟨Nat.zero_le _, empty_to g4 hz.symm, ?_⟩, ⟨rfl, os_den hz.symm, trivial, trivial, trivial, trivial, trivial, trivial⟩, leAt [0, 1, 2, 3] (by decide) ⟨LeB.refl _, leBytes hz fun i hi => ?_, LeB.refl _, LeB.refl _, trivial⟩⟩, fun t ht => ?_⟩⟩
        · show (pushB (pushB y.B cu) 34).data.toList = _
          rw [toList_pushB, hB]; rfl
        · have j := joinOne (B := pushB y.B cu) (m := y.B.size + 1) (i := i) (c := 34) (by decide) (by decide) (size_pushB _ _).symm
          rw [← j1 i] at j
          exact j.symm
        · obtain ⟨t1, t2, t3⟩ := ht
          have htl := bsize t3
          simp only [List.length_append, List.length_cons] at htl
          have htk := quoteL_take (F x.i y.i).data.toList t.i
          refine br_intro (fun hlt => ?_) (fun hge2 => ?_)
          · have hti : t.i < (F x.i y.i).size := by have := of_decide_eq_true hlt; omega
            obtain ⟨b, hb⟩ : ∃ b, (F x.i y.i).data.toList[t.i]? = some b := ⟨_, List.getElem?_eq_getElem (by rw [size_list]; exact hti)⟩
            have hbyte : byteAt (F x.i y.i) t.i = (b.toNat : Int) := by unfold byteAt; rw [hb]; rfl
            have hb255 : (b.toNat : Int) ≤ 255 := by have := b.toNat_lt; omega
            have hstep := quoteL_step hb
            have htk2 := quoteL_take (F x.i y.i).data.toList (t.i + 1)
            have hbb : ((b.toNat : Int)).toNat.toUInt8 = b := by simp
            rw [hbyte]
            refine ⟨⟨by omega, by omega⟩, br_intro (fun hq => ?_) (fun hq => ?_)⟩
            · have hb34 : b = 34 := by
                have : (b.toNat : Int) = 34 := by simpa using hq
                exact UInt8.toNat.inj (by show b.toNat = 34; omega)
              rw [hstep, if_pos hb34, List.length_append] at htk2
              simp only [List.length_cons, List.length_nil] at htk2
              intro n28
              refine ⟨trivial, trivial, trivial, trivial, Nat.le_refl _, trivial, t2, ⟨by omega, by omega⟩, fun a3 p3 q3 S3 g5 g6 => ⟨⟨by omega, by omega⟩, fun n35 => ?_⟩⟩
              have hz2 : (pushB (pushB t.B 34) b).size = t.B.size + 1 + 1 := by rw [size_pushB, size_pushB]
              refine ⟨trivial, trivial, trivial, trivial, Nat.le_refl _, trivial, g6, ⟨by omega, by omega⟩, fun a4 p4 q4 S4 g7 g8 => ⟨⟨t.i + 1, a4, p4, pushB (pushB t.B 34) b, q4, S4⟩, ⟨hti, empty_to g8 hz2.symm, ?_⟩, by show (F x.i y.i).size - (t.i + 1) < (F x.i y.i).size - t.i; omega, ⟨i6_step (by omega), os_den hz2.symm, trivial, trivial, trivial, trivial, trivial, trivial⟩, leAt [0, 1, 2, 3] (by decide) ⟨LeB.refl _, leBytes hz2 fun i hi => ?_, LeB.refl _, LeB.refl _, trivial⟩⟩⟩
              · show (pushB (pushB t.B 34) b).data.toList = _
                rw [toList_pushB, toList_pushB, t3, hstep, if_pos hb34, hb34]
                simp
              · have j2 : (if i < t.B.size then byteAt t.B i else if i < t.B.size + 1 then (match asI IntKind.u8 ((nth [AV.v (Value.int IntKind.u8 34)] ((i - t.B.size) * 1 + 0)).getD (AV.v undef)) with | some x => x | none => 0) else 0) = byteAt (pushB t.B 34) i := joinOne (c := 34) (by decide) (by decide) rfl
                have j3 := joinOne (B := pushB t.B 34) (m := t.B.size + 1) (i := i) (c := (b.toNat : Int)) (by omega) hb255 (size_pushB _ _).symm
                rw [hbb] at j3
                rw [← j2] at j3
                exact j3.symm
            · have hb34 : ¬ b = 34 := fun e => by subst e; simp at hq
              rw [hstep, if_neg hb34, List.length_append] at htk2
              simp only [List.length_cons, List.length_nil] at htk2
              refine ⟨⟨by omega, by omega⟩, fun n28 => ?_⟩
              have hz2 : (pushB t.B b).size = t.B.size + 1 := size_pushB _ _
              refine ⟨trivial, trivial, trivial, trivial, Nat.le_refl _, trivial, t2, ⟨by omega, by omega⟩, fun a4 p4 q4 S4 g7 g8 => ⟨⟨t.i + 1, a4, p4, pushB t.B b, q4, S4⟩, ⟨hti, empty_to g8 hz2.symm, ?_⟩, by show (F x.i y.i).size - (t.i + 1) < (F x.i y.i).size - t.i; omega, ⟨i6_step (by omega), os_den hz2.symm, trivial, trivial, trivial, trivial, trivial, trivial⟩, leAt [0, 1, 2, 3] (by decide) ⟨LeB.refl _, leBytes hz2 fun i hi => ?_, LeB.refl _, LeB.refl _, trivial⟩⟩⟩
              · show (pushB t.B b).data.toList = _
                rw [toList_pushB, t3, hstep, if_neg hb34]
                simp
              · have j3 := joinOne (B := t.B) (m := t.B.size) (i := i) (c := (b.toNat : Int)) (by omega) hb255 rfl
                rw [hbb] at j3
                exact j3.symm
          · have htf : t.i = (F x.i y.i).size := by have := of_decide_eq_false hge2; omega
            intro n28
            have hz2 : (pushB t.B 34).size = t.B.size + 1 := size_pushB _ _
            refine ⟨trivial, trivial, trivial, trivial, Nat.le_refl _, trivial, t2, ⟨by omega, by omega⟩, fun a4 p4 q4 S4 g7 g8 => ⟨⟨y.i + 1, a4, p4, pushB t.B 34, q4, S4⟩, ⟨hk, empty_to g8 hz2.symm, ?_⟩, by show (g x.i).len - (y.i + 1) < (g x.i).len - y.i; omega, ⟨i6_step (by omega), os_den hz2.symm, trivial, trivial, trivial, trivial⟩, leAt [0, 1] (by decide) ⟨LeB.refl _, leBytes hz2 fun i hi => ?_, trivial⟩⟩⟩
            · show (pushB t.B 34).data.toList = _
              rw [toList_pushB, t3, upTo_succ, fieldL_yes hn, htf, ← size_list, List.take_length]
              simp
            · exact (joinOne (B := t.B) (m := t.B.size) (i := i) (c := 34) (by decide) (by decide) rfl).symm
    · have hk0 : y.i = 0 := by have := of_decide_eq_false hpos; omega
      have hus : upSep cu g F x.i y.i = upTo cu g F x.i y.i := by rw [upSep, if_pos hk0, List.append_nil]
      have hB : y.B.data.toList = upSep cu g F x.i y.i := by rw [y3, hus]
      have hBs := bsize hB
      have hge := fieldL_ge cu (Nat.beq (g x.i).len 1) (F x.i y.i)
      refine ⟨⟨by omega, by omega⟩, trivial, trivial, hr, ⟨by omega, by omega⟩, x.i, hr, rfl, rfl, hk, ⟨by omega, by omega⟩, trivial, trivial, hr, ⟨h0, h1, by omega⟩, ?_⟩
      have hbeq : ((((g x.i).len : Int) == 1)) = Nat.beq (g x.i).len 1 := by
        rw [Bool.eq_iff_iff, beq_iff_eq, Nat.beq_eq]; omega
      rw [hbeq]
      refine br_intro (fun hn => ?_) (fun hn => ?_)
      · -- as it is
        have hn : needsB (F x.i y.i) (Nat.beq (g x.i).len 1) cu = false := by simpa using hn
        rw [fieldL_no hn, size_list] at hfr
        have hz : (catS y.B (F x.i y.i)).size = y.B.size + (F x.i y.i).size := by rw [size_catS]
        refine ⟨trivial, trivial, trivial, Nat.le_refl _, trivial, y2, ⟨by omega, by omega⟩, fun a2 p2 q2 S2 g3 g4 => ⟨⟨y.i + 1, a2, p2, catS y.B (F x.i y.i), q2, S2⟩, ⟨hk, empty_to g4 hz.symm, ?_⟩, by show (g x.i).len - (y.i + 1) < (g x.i).len - y.i; omega, ⟨i6_step (by omega), os_den hz.symm, trivial, trivial, trivial, trivial⟩, leAt [0, 1] (by decide) ⟨LeB.refl _, leBytes hz fun i hi => ?_, trivial⟩⟩⟩
        · show (catS y.B (F x.i y.i)).data.toList = _
          rw [toList_catS, hB, upTo_succ, fieldL_no hn]
        · exact (joinStr (B := y.B) (s := F x.i y.i) (m := y.B.size) (i := i) rfl).symm
      · -- in quotes
        have hn : needsB (F x.i y.i) (Nat.beq (g x.i).len 1) cu = true := by simpa using hn
        rw [fieldL_yes hn] at hfr
        simp only [List.length_append, List.length_cons, List.length_nil] at hfr
        have hqg := quoteL_ge (F x.i y.i).data.toList
        rw [size_list] at hqg
        intro n19
        have hz : (pushB y.B 34).size = y.B.size + 1 := by rw [size_pushB]
        refine ⟨trivial, trivial, trivial, trivial, Nat.le_refl _, trivial, y2, ⟨by omega, by omega⟩, fun a2 p2 q2 S2 g3 g4 => ⟨⟨⟨0, a2, p2, pushB y.B 34, q2, S2⟩, ⟨Nat.zero_le _, empty_to g4 hz.symm, ?_⟩, ⟨rfl, os_den hz.symm, trivial, trivial, trivial, trivial, trivial, trivial⟩, leAt [0, 1, 2] (by decide) ⟨LeB.refl _, leBytes hz fun i hi => ?_, LeB.refl _, trivial⟩⟩, fun t ht => ?_⟩⟩
        · show (pushB y.B 34).data.toList = _
          rw [toList_pushB, hB]; rfl
        · exact (joinOne (B := y.B) (m := y.B.size) (i := i) (c := 34) (by decide) (by decide) rfl).symm
        · obtain ⟨t1, t2, t3⟩ := ht
          have htl := bsize t3
          simp only [List.length_append, List.length_cons] at htl
          have htk := quoteL_take (F x.i y.i).data.toList t.i
          refine br_intro (fun hlt => ?_) (fun hge2 => ?_)
          · have hti : t.i < (F x.i y.i).size := by have := of_decide_eq_true hlt; omega
            obtain ⟨b, hb⟩ : ∃ b, (F x.i y.i).data.toList[t.i]? = some b := ⟨_, List.getElem?_eq_getElem (by rw [size_list]; exact hti)⟩
            have hbyte : byteAt (F x.i y.i) t.i = (b.toNat : Int) := by unfold byteAt; rw [hb]; rfl
            have hb255 : (b.toNat : Int) ≤ 255 := by have := b.toNat_lt; omega
            have hstep := quoteL_step hb
            have htk2 := quoteL_take (F x.i y.i).data.toList (t.i + 1)
            have hbb : ((b.toNat : Int)).toNat.toUInt8 = b := by simp
            rw [hbyte]
            refine ⟨⟨by omega, by omega⟩, br_intro (fun hq => ?_) (fun hq => ?_)⟩
            · have hb34 : b = 34 := by
                have : (b.toNat : Int) = 34 := by simpa using hq
                exact UInt8.toNat.inj (by show b.toNat = 34; omega)
              rw [hstep, if_pos hb34, List.length_append] at htk2
              simp only [List.length_cons, List.length_nil] at htk2
              intro n28
              refine ⟨trivial, trivial, trivial, trivial, Nat.le_refl _, trivial, t2, ⟨by omega, by omega⟩, fun a3 p3 q3 S3 g5 g6 => ⟨⟨by omega, by omega⟩, fun n35 => ?_⟩⟩
              have hz2 : (pushB (pushB t.B 34) b).size = t.B.size + 1 + 1 := by rw [size_pushB, size_pushB]
              refine ⟨trivial, trivial, trivial, trivial, Nat.le_refl _, trivial, g6, ⟨by omega, by omega⟩, fun a4 p4 q4 S4 g7 g8 => ⟨⟨t.i + 1, a4, p4, pushB (pushB t.B 34) b, q4, S4⟩, ⟨hti, empty_to g8 hz2.symm, ?_⟩, by show (F x.i y.i).size - (t.i + 1) < (F x.i y.i).size - t.i; omega, ⟨i6_step (by omega), os_den hz2.symm, trivial, trivial, trivial, trivial, trivial, trivial⟩, leAt [0, 1, 2] (by decide) ⟨LeB.refl _, leBytes hz2 fun i hi => ?_, LeB.refl _, trivial⟩⟩⟩
              · show (pushB (pushB t.B 34) b).data.toList = _
                rw [toList_pushB, toList_pushB, t3, hstep, if_pos hb34, hb34]
                simp
              · have j2 : (if i < t.B.size then byteAt t.B i else if i < t.B.size + 1 then (match asI IntKind.u8 ((nth [AV.v (Value.int IntKind.u8 34)] ((i - t.B.size) * 1 + 0)).getD (AV.v undef)) with | some x => x | none => 0) else 0) = byteAt (pushB t.B 34) i := joinOne (c := 34) (by decide) (by decide) rfl
                have j3 := joinOne (B := pushB t.B 34) (m := t.B.size + 1) (i := i) (c := (b.toNat : Int)) (by omega) hb255 (size_pushB _ _).symm
                rw [hbb] at j3
                rw [← j2] at j3
                exact j3.symm
            · have hb34 : ¬ b = 34 := fun e => by subst e; simp at hq
              rw [hstep, if_neg hb34, List.length_append] at htk2
              simp only [List.length_cons, List.length_nil] at htk2
              refine ⟨⟨by omega, by omega⟩, fun n28 => ?_⟩
              have hz2 : (pushB t.B b).size = t.B.size + 1 := size_pushB _ _
              refine ⟨trivial, trivial, trivial, trivial, Nat.le_refl _, trivial, t2, ⟨by omega, by omega⟩, fun a4 p4 q4 S4 g7 g8 => ⟨⟨t.i + 1, a4, p4, pushB t.B b, q4, S4⟩, ⟨hti, empty_to g8 hz2.symm, ?_⟩, by show (F x.i y.i).size - (t.i + 1) < (F x.i y.i).size - t.i; omega, ⟨i6_step (by omega), os_den hz2.symm, trivial, trivial, trivial, trivial, trivial, trivial⟩, leAt [0, 1, 2] (by decide) ⟨LeB.refl _, leBytes hz2 fun i hi => ?_, LeB.refl _, trivial⟩⟩⟩
              · show (pushB t.B b).data.toList = _
                rw [toList_pushB, t3, hstep, if_neg hb34]
                simp
              · have j3 := joinOne (B := t.B) (m := t.B.size) (i := i) (c := (b.toNat : Int)) (by omega) hb255 rfl
                rw [hbb] at j3
                exact j3.symm
          · have htf : t.i = (F x.i y.i).size := by have := of_decide_eq_false hge2; omega
            intro n28
            have hz2 : (pushB t.B 34).size = t.B.size + 1 := size_pushB _ _
            refine ⟨trivial, trivial, trivial, trivial, Nat.le_refl _, trivial, t2, ⟨by omega, by omega⟩, fun a4 p4 q4 S4 g7 g8 => ⟨⟨y.i + 1, a4, p4, pushB t.B 34, q4, S4⟩, ⟨hk, empty_to g8 hz2.symm, ?_⟩, by show (g x.i).len - (y.i + 1) < (g x.i).len - y.i; omega, ⟨i6_step (by omega), os_den hz2.symm, trivial, trivial, trivial, trivial⟩, leAt [0, 1] (by decide) ⟨LeB.refl _, leBytes hz2 fun i hi => ?_, trivial⟩⟩⟩
            · show (pushB t.B 34).data.toList = _
              rw [toList_pushB, t3, upTo_succ, fieldL_yes hn, htf, ← size_list, List.take_length]
              simp
            · exact (joinOne (B := t.B) (m := t.B.size) (i := i) (c := 34) (by decide) (by decide) rfl).symm)
end Go.Proofs.YtdokphikobfakaaDoor

