/- Csv: the program's Write: what it tells. -/
import Derived.Test.YtdokphikobfakaaDoorO
namespace Go.Proofs.YtdokphikobfakaaDoor
open Go Go.Eng Go.Sp
set_option linter.unusedVariables false
set_option linter.unusedSimpArgs false

/-- A quoted field. -/
theorem toList_quoted (s : ByteArray) : (catS (catS (ByteArray.mk #[(34 : UInt8)]) (mkS (Lib.replaceAll s.data.toList (ByteArray.mk #[(34 : UInt8)]).data.toList (ByteArray.mk #[(34 : UInt8), (34 : UInt8)]).data.toList))) (ByteArray.mk #[(34 : UInt8)])).data.toList = 34 :: quoteL s.data.toList ++ [34] := by
  rw [toList_catS, toList_catS]
  have := replaceAll_quote s.data.toList
  show [34] ++ (mkS (Lib.replaceAll s.data.toList [34] [34, 34])).data.toList ++ [34] = _
  rw [this]
  rfl

theorem size_catS' {A B : ByteArray} : (catS A B).size = A.size + B.size := size_catS ..

theorem mkS_eq {B : ByteArray} {l : List UInt8} (h : B.data.toList = l) : B = mkS l := by
  apply ByteArray.ext
  apply Array.ext'
  rw [h]; rfl

set_option maxRecDepth 20000 in
set_option maxHeartbeats 8000000 in
theorem cwr_lc (a : Option Addr) (n o L cap : Nat) (g : Nat → RW) (F : Nat → Nat → ByteArray) (S : List Nat) (c m : Int) (h0 : 0 ≤ c) (h1 : c ≤ 255) (hL : L ≤ 1099511627776) (hT : (rowsL c.toNat.toUInt8 g F L).length ≤ 1099511627776)
    (hlen : ∀ i, i < L → (g i).len ≤ 1099511627776) (hF : ∀ i k, i < L → k < (g i).len → (F i k).size < 4294967281) :
    LC Tryd.prog 8 [.os 1 a n o 0 1 L cap, .v (.int .u8 c)] [gB m, ⟨n, .texts o L g F S false, false⟩] (fun z _ => z = wrV c L g F) :=
  cwr0_vc a n o L cap g F S c m (by
    generalize hcu : c.toNat.toUInt8 = cu at hT ⊢
    refine br_intro (fun c0 => br_intro (fun c1 => br_intro (fun c2 => br_intro (fun c3 => ?_) (fun c3 => ?_)) (fun c2 => ?_)) (fun c1 => ?_)) (fun c0 => ?_)
    · refine (wrV_arg (.inl fun h => ?_)).symm
      simp at c3; exact h.2.2.2 c3
    rotate_left
    · refine (wrV_arg (.inl fun h => ?_)).symm
      simp at c2; exact h.2.2.1 c2
    · refine (wrV_arg (.inl fun h => ?_)).symm
      simp at c1; exact h.2.1 c1
    · refine (wrV_arg (.inl fun h => ?_)).symm
      simp at c0; exact h.1 c0
    have hsep : sepOk c := by simp at c0 c1 c2 c3; exact ⟨c0, c1, c2, c3⟩
    refine ⟨⟨0, ⟨Nat.zero_le _, fun q hq => absurd hq (Nat.not_lt_zero _)⟩, ⟨rfl, rfl, rfl, rfl, rfl, trivial⟩, LeH.refl _⟩, fun i hi => br_intro (fun hlt => ?_) (fun hge => ?_)⟩
    · have hlt : i < L := by have := of_decide_eq_true hlt; omega
      simp only [Int.toNat_natCast, Nat.zero_add]
      refine ⟨⟨by omega, by omega⟩, trivial, trivial, hlt, br_intro (fun hz => ?_) (fun hz => ⟨i + 1, ⟨hlt, fun q hq => ?_⟩, by omega, ⟨i6_step (by omega), trivial, trivial, trivial, trivial, trivial⟩, LeH.refl _⟩)⟩
      · refine (wrV_arg (.inr fun h => ?_)).symm
        have := h i hlt
        simp at hz; omega
      · rcases Nat.lt_or_ge q i with h3 | h3
        · exact hi.2 q h3
        · obtain rfl : q = i := by omega
          simp at hz; omega
    have hfull : full L g := by
      have := of_decide_eq_false hge
      obtain rfl : i = L := by have := hi.1; omega
      exact hi.2
    refine br_intro (fun hbig => ?_) (fun hbig => ⟨g, F, S, false, rfl, by omega, br_intro (fun hw => ?_) (fun hw => ?_)⟩)
    · exact (wrV_big hsep hfull (.inl (by have := of_decide_eq_true hbig; omega))).symm
    · exact (wrV_big hsep hfull (.inr (by have := of_decide_eq_true hw; omega))).symm
    have hsm : ¬ (1048576 < L ∨ 16384 < wideN g L) := by
      have := of_decide_eq_false hbig
      have := of_decide_eq_false hw
      omega
    intro n7
    refine ⟨⟨⟨0, ByteArray.mk #[], [n7]⟩, ⟨Nat.zero_le _, rfl⟩, ⟨rfl, rfl, rfl, rfl, rfl, trivial⟩, leAt [0, 1, 2] (by decide) ⟨LeB.refl _, LeB.refl _, bRaw_pack rfl, trivial⟩⟩, fun x hx => br_intro (fun hlt => ?_) (fun hge => ?_)⟩
    rotate_left
    · -- all is written
      obtain ⟨x1, x3⟩ := hx
      have hxi : x.i = L := by have := of_decide_eq_false hge; omega
      rw [wrV_ok hsep hfull hsm, hcu, ← hxi, ← mkS_eq x3]
      exact ⟨x.B, .inl ⟨_, rfl⟩, fun _ => rfl⟩
    obtain ⟨x1, x3⟩ := hx
    have hr : x.i < L := by have := of_decide_eq_true hlt; omega
    have hlr := hlen x.i hr
    simp only [Int.toNat_natCast, Nat.zero_add]
    refine ⟨⟨by omega, by omega⟩, trivial, trivial, hr, ⟨⟨0, x.B, x.S⟩, ⟨Nat.zero_le _, by rw [upTo_zero]; exact x3⟩, ⟨rfl, trivial, trivial, trivial, trivial, trivial, trivial, trivial, trivial, trivial⟩, LeH.refl _⟩, fun y hy => br_intro (fun hlt => ?_) (fun hge => ?_)⟩
    rotate_left
    · -- the row ends
      obtain ⟨y1, y3⟩ := hy
      have hyk : y.i = (g x.i).len := by have := of_decide_eq_false hge; omega
      have hyl := bsize y3
      have hroom := upTo_len cu g F (L := L) hr y1
      refine ⟨y.B, .inl ⟨_, rfl⟩, by decide, by decide, by omega, fun S' => ⟨⟨x.i + 1, pushB y.B 10, S'⟩, ⟨hr, ?_⟩, by show L - (x.i + 1) < L - x.i; omega, ⟨i6_step (by omega), trivial, trivial, trivial, trivial, trivial⟩, LeH.refl _⟩⟩
      show (pushB y.B 10).data.toList = _
      rw [toList_pushB, y3, rowsL_succ, hyk]
    obtain ⟨y1, y3⟩ := hy
    have hk : y.i < (g x.i).len := by have := of_decide_eq_true hlt; omega
    have hyl := bsize y3
    have hroom := upTo_len cu g F (L := L) hr y1
    have hfr := field_room (c := cu) (F := F) hr hk
    have hFs := hF x.i y.i hr hk
    have hbeq : ((((g x.i).len : Int) == 1)) = Nat.beq (g x.i).len 1 := by
      rw [Bool.eq_iff_iff, beq_iff_eq, Nat.beq_eq]; omega
    refine ⟨⟨by omega, by omega⟩, x.i, hr, rfl, rfl, hk, br_intro (fun hpos => ?_) (fun hpos => ?_)⟩
    · have hk0 : y.i ≠ 0 := by have := of_decide_eq_true hpos; omega
      have hus : upSep cu g F x.i y.i = upTo cu g F x.i y.i ++ [cu] := by rw [upSep, if_neg hk0]
      have hB : (pushB y.B cu).data.toList = upSep cu g F x.i y.i := by rw [toList_pushB, y3, hus]
      have hBs := bsize hB
      refine ⟨y.B, .inl ⟨_, rfl⟩, h0, h1, by omega, fun S1 => ⟨hFs, ?_⟩⟩
      rw [hbeq]
      refine br_intro (fun hn => ?_) (fun hn => ?_)
      · rw [fieldL_yes hn] at hfr
        have hql := toList_quoted (F x.i y.i)
        have hqs := bsize hql
        have hql2 : (catS (catS (ByteArray.mk #[(34 : UInt8)]) (mkS (Lib.replaceAll (F x.i y.i).data.toList [34] [34, 34]))) (ByteArray.mk #[(34 : UInt8)])).data.toList = 34 :: quoteL (F x.i y.i).data.toList ++ [34] := hql
        have hqs2 := bsize hql2
        simp only [List.length_append, List.length_cons, List.length_nil] at hfr hqs2
        have hq2 := quoteL_len (F x.i y.i).data.toList
        rw [size_list] at hq2
        simp only [List.length_append, List.length_cons, List.length_nil] at hqs
        have hrs : (mkS (Lib.replaceAll (F x.i y.i).data.toList (ByteArray.mk #[(34 : UInt8)]).data.toList (ByteArray.mk #[(34 : UInt8), (34 : UInt8)]).data.toList)).size = (quoteL (F x.i y.i).data.toList).length := bsize (replaceAll_quote (F x.i y.i).data.toList)
        have hrs2 : (mkS (Lib.replaceAll (F x.i y.i).data.toList [34] [34, 34])).size = (quoteL (F x.i y.i).data.toList).length := hrs
        have hcb := Lib.countB_le (ByteArray.mk #[(34 : UInt8)]) (by decide) _ (F x.i y.i) (Nat.le_refl _)
        have e1 : (ByteArray.mk #[(34 : UInt8)]).size = 1 := rfl
        refine ⟨⟨hFs, by omega, by omega⟩, by omega, by rw [size_catS', e1]; omega, pushB y.B cu, .inl ⟨_, rfl⟩, by omega, fun S2 => ⟨⟨y.i + 1, _, S2⟩, ⟨hk, ?_⟩, by show (g x.i).len - (y.i + 1) < (g x.i).len - y.i; omega, ⟨i6_step (by omega), trivial, trivial, trivial, trivial, trivial, trivial, trivial, trivial, trivial⟩, LeH.refl _⟩⟩
        show (catS (pushB y.B cu) _).data.toList = _
        rw [toList_catS, hB, upTo_succ, fieldL_yes hn, hql2]
      · have hn : needsB (F x.i y.i) (Nat.beq (g x.i).len 1) cu = false := by simpa using hn
        rw [fieldL_no hn, size_list] at hfr
        refine ⟨pushB y.B cu, .inl ⟨_, rfl⟩, by omega, fun S2 => ⟨⟨y.i + 1, _, S2⟩, ⟨hk, ?_⟩, by show (g x.i).len - (y.i + 1) < (g x.i).len - y.i; omega, ⟨i6_step (by omega), trivial, trivial, trivial, trivial, trivial, trivial, trivial, trivial, trivial⟩, LeH.refl _⟩⟩
        show (catS (pushB y.B cu) _).data.toList = _
        rw [toList_catS, hB, upTo_succ, fieldL_no hn]
    · have hk0 : y.i = 0 := by have := of_decide_eq_false hpos; omega
      have hus : upSep cu g F x.i y.i = upTo cu g F x.i y.i := by rw [upSep, if_pos hk0, List.append_nil]
      have hB : y.B.data.toList = upSep cu g F x.i y.i := by rw [y3, hus]
      have hBs := bsize hB
      refine ⟨hFs, ?_⟩
      rw [hbeq]
      refine br_intro (fun hn => ?_) (fun hn => ?_)
      · rw [fieldL_yes hn] at hfr
        have hql := toList_quoted (F x.i y.i)
        have hqs := bsize hql
        have hql2 : (catS (catS (ByteArray.mk #[(34 : UInt8)]) (mkS (Lib.replaceAll (F x.i y.i).data.toList [34] [34, 34]))) (ByteArray.mk #[(34 : UInt8)])).data.toList = 34 :: quoteL (F x.i y.i).data.toList ++ [34] := hql
        have hqs2 := bsize hql2
        simp only [List.length_append, List.length_cons, List.length_nil] at hfr hqs2
        have hq2 := quoteL_len (F x.i y.i).data.toList
        rw [size_list] at hq2
        simp only [List.length_append, List.length_cons, List.length_nil] at hqs
        have hrs : (mkS (Lib.replaceAll (F x.i y.i).data.toList (ByteArray.mk #[(34 : UInt8)]).data.toList (ByteArray.mk #[(34 : UInt8), (34 : UInt8)]).data.toList)).size = (quoteL (F x.i y.i).data.toList).length := bsize (replaceAll_quote (F x.i y.i).data.toList)
        have hrs2 : (mkS (Lib.replaceAll (F x.i y.i).data.toList [34] [34, 34])).size = (quoteL (F x.i y.i).data.toList).length := hrs
        have hcb := Lib.countB_le (ByteArray.mk #[(34 : UInt8)]) (by decide) _ (F x.i y.i) (Nat.le_refl _)
        have e1 : (ByteArray.mk #[(34 : UInt8)]).size = 1 := rfl
        refine ⟨⟨hFs, by omega, by omega⟩, by omega, by rw [size_catS', e1]; omega, y.B, .inl ⟨_, rfl⟩, by omega, fun S2 => ⟨⟨y.i + 1, _, S2⟩, ⟨hk, ?_⟩, by show (g x.i).len - (y.i + 1) < (g x.i).len - y.i; omega, ⟨i6_step (by omega), trivial, trivial, trivial, trivial, trivial, trivial, trivial, trivial, trivial⟩, LeH.refl _⟩⟩
        show (catS y.B _).data.toList = _
        rw [toList_catS, hB, upTo_succ, fieldL_yes hn, hql2]
      · have hn : needsB (F x.i y.i) (Nat.beq (g x.i).len 1) cu = false := by simpa using hn
        rw [fieldL_no hn, size_list] at hfr
        refine ⟨y.B, .inl ⟨_, rfl⟩, by omega, fun S2 => ⟨⟨y.i + 1, _, S2⟩, ⟨hk, ?_⟩, by show (g x.i).len - (y.i + 1) < (g x.i).len - y.i; omega, ⟨i6_step (by omega), trivial, trivial, trivial, trivial, trivial, trivial, trivial, trivial, trivial⟩, LeH.refl _⟩⟩
        show (catS y.B _).data.toList = _
        rw [toList_catS, hB, upTo_succ, fieldL_no hn])
end Go.Proofs.YtdokphikobfakaaDoor

