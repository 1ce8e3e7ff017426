/- Place: the law PlaceBack. -/
import Derived.Test.YtilejaehbgljbaaDoorI
import Derived.Test.YtilejaehbgljbaaDoorEngU
namespace Go.Sp
open Go.Eng Go.Proofs.YtilejaehbgljbaaDoor

theorem tail_36 (X : ByteArray) : d1 (catS (ByteArray.mk #[36]) X) = true ∧ tailD (catS (ByteArray.mk #[36]) X) = X := by
  have s36 : (ByteArray.mk #[36]).size = 1 := rfl
  have hb : byteAt (catS (ByteArray.mk #[36]) X) 0 = 36 := by rw [byteAt_cat, s36, if_pos (by omega)]; rfl
  have hd : d1 (catS (ByteArray.mk #[36]) X) = true := by
    rw [d1, hb, size_catS, s36, decide_eq_true (by omega)]; rfl
  refine ⟨hd, ?_⟩
  rw [tailD, hd, if_pos rfl, size_catS, s36, subS, catS, data_mkS, show 1 + X.size - 1 = X.size by omega]
  have e : (ByteArray.mk #[36]).data.toList = [(36 : UInt8)] := rfl
  rw [e, List.singleton_append, List.drop_succ_cons, List.drop_zero, List.take_of_length_le (by rw [size_data]; exact Nat.le_refl _), mkS_toList]

theorem tail_no {X : ByteArray} (h : byteAt X 0 ≠ 36) : d1 X = false ∧ tailD X = X := by
  have hd : d1 X = false := by rw [d1, beq_eq_false_iff_ne.2 h, Bool.and_false]
  exact ⟨hd, by rw [tailD, hd]; rfl⟩

theorem sub_catL (L Y : ByteArray) : subS (catS L Y) 0 L.size = L := by
  rw [subS, catS, data_mkS, List.drop_zero, Nat.sub_zero, ← size_data L, List.take_left, mkS_toList]

theorem sub_catR (L Y : ByteArray) : subS (catS L Y) L.size (catS L Y).size = Y := by
  rw [subS, size_catS, catS, data_mkS, ← size_data L, List.drop_left, List.take_of_length_le (by rw [size_data]; omega), mkS_toList]

theorem lets_cat {L Y : ByteArray} (hL : allTo 38 L L.size) (hY : Y.size = 0 ∨ soB 38 (byteAt Y 0) = false) : letsL (catS L Y) = L ∧ restL (catS L Y) = Y := by
  have e : cutN 38 (catS L Y).size (catS L Y) = L.size := by
    refine (cut_eq (by rw [size_catS]; omega) (by rw [size_catS]; omega) ⟨fun j hj => ?_⟩ ?_).symm
    · rw [byteAt_cat, if_pos hj]; exact hL.get j hj
    · rw [size_catS]
      rcases hY with h | h
      · left; omega
      · right; right
        rw [byteAt_cat, if_neg (by omega), Nat.sub_self]; exact h
  exact ⟨by rw [letsL, e]; exact sub_catL L Y, by rw [restL, e]; exact sub_catR L Y⟩

theorem byteAt_mkI {l : List Int} {i : Nat} {x : Int} (h : l[i]? = some x) (hx : 0 ≤ x ∧ x ≤ 255) : byteAt (mkI l) i = x := by
  unfold byteAt mkI
  rw [data_mkS, List.getElem?_map, h, Option.map_some, Option.getD_some]
  have e : (UInt8.ofNat x.toNat).toNat = x.toNat := by rw [UInt8.toNat_ofNat']; omega
  rw [e]; omega

theorem strL_facts {c : Int} (h : 1 ≤ c ∧ c ≤ 16384) : 1 ≤ (strL c).size ∧ (∀ j, j < (strL c).size → 65 ≤ byteAt (strL c) j ∧ byteAt (strL c) j ≤ 90) ∧ colE (strL c) = 0 ∧ colN (strL c) = c := by
  have hok : okC c = true := by rw [okC, decide_eq_true_eq]; exact h
  rw [strL, hok, if_pos rfl]
  unfold ltrs
  split
  · have b0 := byteAt_mkI (l := [64 + c]) (i := 0) (x := 64 + c) rfl (by omega)
    have k0 : kx (mkI [64 + c]) 0 = c := by rw [kx, b0, letF, if_pos (by omega)]; omega
    have sz : (mkI [64 + c]).size = 1 := size_mkI _
    have bad : badC (mkI [64 + c]) = false := by
      rw [badC, sz, k0, decide_eq_false_iff_not]; omega
    have sm : sumC (mkI [64 + c]) = c := by rw [sumC, sz, if_pos rfl, k0]
    refine ⟨by omega, fun j hj => ?_, ?_, ?_⟩
    · obtain rfl : j = 0 := by omega
      rw [b0]; omega
    · rw [colE, bad, sm, if_neg (by decide), if_neg (by omega)]
    · rw [colN, bad, sm, if_neg (by decide), if_neg (by omega)]
  · split
    · generalize hl : [64 + (c - 1) / 26, 65 + (c - 1) % 26] = l
      have b0 := byteAt_mkI (l := l) (i := 0) (x := 64 + (c - 1) / 26) (by rw [← hl]; rfl) (by omega)
      have b1 := byteAt_mkI (l := l) (i := 1) (x := 65 + (c - 1) % 26) (by rw [← hl]; rfl) (by omega)
      have k0 : kx (mkI l) 0 = (c - 1) / 26 := by rw [kx, b0, letF, if_pos (by omega)]; omega
      have k1 : kx (mkI l) 1 = (c - 1) % 26 + 1 := by rw [kx, b1, letF, if_pos (by omega)]; omega
      have sz : (mkI l).size = 2 := by rw [size_mkI, ← hl]; rfl
      have bad : badC (mkI l) = false := by
        rw [badC, sz, k0, k1, decide_eq_false_iff_not]; omega
      have sm : sumC (mkI l) = c := by rw [sumC, sz, if_neg (by decide), if_pos rfl, k0, k1]; omega
      refine ⟨by omega, fun j hj => ?_, ?_, ?_⟩
      · have : j = 0 ∨ j = 1 := by omega
        rcases this with rfl | rfl
        · rw [b0]; omega
        · rw [b1]; omega
      · rw [colE, bad, sm, if_neg (by decide), if_neg (by omega)]
      · rw [colN, bad, sm, if_neg (by decide), if_neg (by omega)]
    · generalize hl : [64 + ((c - 1) / 26 - 1) / 26, 65 + ((c - 1) / 26 - 1) % 26, 65 + (c - 1) % 26] = l
      have b0 := byteAt_mkI (l := l) (i := 0) (x := 64 + ((c - 1) / 26 - 1) / 26) (by rw [← hl]; rfl) (by omega)
      have b1 := byteAt_mkI (l := l) (i := 1) (x := 65 + ((c - 1) / 26 - 1) % 26) (by rw [← hl]; rfl) (by omega)
      have b2 := byteAt_mkI (l := l) (i := 2) (x := 65 + (c - 1) % 26) (by rw [← hl]; rfl) (by omega)
      have k0 : kx (mkI l) 0 = ((c - 1) / 26 - 1) / 26 := by rw [kx, b0, letF, if_pos (by omega)]; omega
      have k1 : kx (mkI l) 1 = ((c - 1) / 26 - 1) % 26 + 1 := by rw [kx, b1, letF, if_pos (by omega)]; omega
      have k2 : kx (mkI l) 2 = (c - 1) % 26 + 1 := by rw [kx, b2, letF, if_pos (by omega)]; omega
      have sz : (mkI l).size = 3 := by rw [size_mkI, ← hl]; rfl
      have bad : badC (mkI l) = false := by
        rw [badC, sz, k0, k1, k2, decide_eq_false_iff_not]; omega
      have sm : sumC (mkI l) = c := by rw [sumC, sz, if_neg (by decide), if_neg (by decide), k0, k1, k2]; omega
      refine ⟨by omega, fun j hj => ?_, ?_, ?_⟩
      · have : j = 0 ∨ j = 1 ∨ j = 2 := by omega
        rcases this with rfl | rfl | rfl
        · rw [b0]; omega
        · rw [b1]; omega
        · rw [b2]; omega
      · rw [colE, bad, sm, if_neg (by decide), if_neg (by omega)]
      · rw [colN, bad, sm, if_neg (by decide), if_neg (by omega)]

theorem val_cat {A B : ByteArray} : ∀ {n : Nat}, n ≤ A.size → valN (catS A B) n = valN A n
  | 0, _ => rfl
  | n + 1, h => by
    rw [valN, valN, val_cat (by omega), byteAt_cat, if_pos (by omega)]

/-- A numeral's digits, and what they tell. -/
theorem num_facts : ∀ (m : Nat) (n : Int), n.toNat ≤ m → 1 ≤ n → 1 ≤ (numL n).size ∧ (∀ j, j < (numL n).size → 48 ≤ byteAt (numL n) j ∧ byteAt (numL n) j ≤ 57) ∧ byteAt (numL n) 0 ≠ 48 ∧ valN (numL n) (numL n).size = n
  | 0, n, h, h1 => by omega
  | m + 1, n, h, h1 => by
    by_cases h10 : n < 10
    · have b0 := byteAt_mkI (l := [n + 48]) (i := 0) (x := n + 48) rfl (by omega)
      have sz : (mkI [n + 48]).size = 1 := size_mkI _
      rw [num_small (by omega) h10, sz]
      refine ⟨by omega, fun j hj => ?_, by rw [b0]; omega, by simp only [valN]; rw [b0]; omega⟩
      obtain rfl : j = 0 := by omega
      rw [b0]; omega
    · obtain ⟨i1, i2, i3, i4⟩ := num_facts m (n / 10) (by omega) (by omega)
      have b0 := byteAt_mkI (l := [n % 10 + 48]) (i := 0) (x := n % 10 + 48) rfl (by omega)
      have sz : (mkI [n % 10 + 48]).size = 1 := size_mkI _
      rw [num_big (by omega), size_catS, sz]
      refine ⟨by omega, fun j hj => ?_, by rw [byteAt_cat, if_pos (by omega)]; exact i3, ?_⟩
      · rw [byteAt_cat]
        by_cases hj2 : j < (numL (n / 10)).size
        · rw [if_pos hj2]; exact i2 j hj2
        · rw [if_neg hj2, show j - (numL (n / 10)).size = 0 by omega, b0]; omega
      · rw [valN, val_cat (Nat.le_refl _), i4, byteAt_cat, if_neg (by omega), Nat.sub_self, b0]; omega

theorem so38_no {x : ByteArray} {i : Nat} (h : byteAt x i < 65) : soB 38 (byteAt x i) = false := by
  show decide (letP (byteAt x i) > 0) = false
  rw [letP_byte, kx, letF, if_neg (by omega), if_neg (by omega)]; rfl

theorem so38_yes {x : ByteArray} {i : Nat} (h : 65 ≤ byteAt x i ∧ byteAt x i ≤ 90) : soB 38 (byteAt x i) = true := by
  show decide (letP (byteAt x i) > 0) = true
  rw [letP_byte, kx, letF, if_pos h, decide_eq_true_eq]; omega

/-- A cell that is written is read as it was. -/
theorem parse_print {r c : Int} (h : okP r c = true) (fr fc : Bool) : parseC (printB r c fr fc) = ⟨r, c, fr, fc, 0⟩ := by
  have hb := okP_b2 h
  obtain ⟨l1, l2, l3, l4⟩ := strL_facts (c := c) (by omega)
  obtain ⟨d1_, d2, d3, d4⟩ := num_facts r.toNat r (Nat.le_refl _) (by omega)
  have dz := num_size 6 (n := r) (by omega) (by omega)
  have hL : allTo 38 (strL c) (strL c).size := ⟨fun j hj => so38_yes (l2 j hj)⟩
  have hL0 : byteAt (strL c) 0 ≠ 36 := by have := l2 0 (by omega); omega
  have hD0 : byteAt (numL r) 0 ≠ 36 := by have := d2 0 (by omega); omega
  have hDa : allTo 37 (numL r) (numL r).size := ⟨fun j hj => by have := d2 j hj; simp [soB]; omega⟩
  have hDc : cutN 37 (numL r).size (numL r) = (numL r).size := (cut_eq (Nat.le_refl _) (Nat.le_refl _) hDa (.inl rfl)).symm
  have good : badD (numL r) = false := by rw [badD, decide_eq_false_iff_not]; omega
  -- what stands behind the letters
  have hY : ∃ Y, (printB r c fr fc = (if fc then catS (ByteArray.mk #[36]) (catS (strL c) Y) else catS (strL c) Y)) ∧ d1 Y = fr ∧ tailD Y = numL r ∧ soB 38 (byteAt Y 0) = false := by
    rw [printB_ok h]
    have assoc : ∀ a b d : ByteArray, catS (catS a b) d = catS a (catS b d) := fun a b d => by
      simp only [catS, data_mkS, List.append_assoc]
    cases fr
    · refine ⟨numL r, ?_, (tail_no hD0).1, (tail_no hD0).2, so38_no (by have := d2 0 (by omega); omega)⟩
      cases fc <;> simp only [Bool.false_eq_true, if_false, if_true, assoc]
    · refine ⟨catS (ByteArray.mk #[36]) (numL r), ?_, (tail_36 _).1, (tail_36 _).2, so38_no ?_⟩
      · cases fc <;> simp only [Bool.false_eq_true, if_false, if_true, assoc]
      · have s36 : (ByteArray.mk #[36]).size = 1 := rfl
        rw [byteAt_cat, s36, if_pos (by omega)]; decide
  obtain ⟨Y, y1, y2, y3, y4⟩ := hY
  obtain ⟨q1, q2⟩ := lets_cat hL (.inr y4)
  have hX : d1 (printB r c fr fc) = fc ∧ tailD (printB r c fr fc) = catS (strL c) Y := by
    rw [y1]
    cases fc
    · simp only [Bool.false_eq_true, if_false]
      exact tail_no (by rw [byteAt_cat, if_pos (by omega)]; exact hL0)
    · simp only [if_true]
      exact tail_36 _
  rw [parseC, hX.1, hX.2, q1, q2, y2, y3, l3, l4, good, d4]
  rw [if_neg (by intro h; rcases h with h | h; exact absurd h (by decide); cases h), if_neg (by omega)]

/-- What is read, if it is right, is a cell. -/
theorem parse_right {s : ByteArray} (h : (parseC s).e = 0) : okP (parseC s).row (parseC s).col = true := by
  unfold parseC at h ⊢
  split at h
  · cases h
  · rename_i h1
    split at h
    · cases h
    · rename_i h2
      rw [if_neg h1, if_neg h2]
      simp only [okP, decide_eq_true_eq]
      have hE : colE (letsL (tailD s)) = 0 := by omega
      have hV : ¬ valN (tailD (restL (tailD s))) (tailD (restL (tailD s))).size > 1048576 := by omega
      have hbad : badD (tailD (restL (tailD s))) = false := by
        cases hh : badD (tailD (restL (tailD s)))
        · rfl
        · exact absurd (.inr hh) h1
      generalize tailD (restL (tailD s)) = q at hV hbad
      generalize letsL (tailD s) = L at hE
      rw [badD, decide_eq_false_iff_not] at hbad
      have hq : cutN 37 q.size q = q.size := by omega
      have ha := cut_all 37 q
      rw [hq] at ha
      have hpos : 1 ≤ valN q q.size := by
        have main : ∀ n, 1 ≤ n → n ≤ q.size → 1 ≤ valN q n := by
          intro n
          induction n with
          | zero => intro h; omega
          | succ n ih =>
            intro _ hn
            have hd := ha.get n (by omega)
            simp only [soB, Bool.and_eq_true, decide_eq_true_eq] at hd
            rw [valN]
            by_cases h0 : n = 0
            · subst h0
              simp only [valN]
              omega
            · have := ih (by omega) (by omega)
              omega
        exact main q.size (by omega) (Nat.le_refl _)
      have hc : 1 ≤ colN L ∧ colN L ≤ 16384 := by
        unfold colE at hE
        split at hE
        · cases hE
        · rename_i hb
          split at hE
          · cases hE
          · rename_i hs
            rw [colN, if_neg hb, if_neg hs]
            refine ⟨?_, by omega⟩
            have hb : badC L = false := by simpa using hb
            rw [badC, decide_eq_false_iff_not] at hb
            have k0 := letF_b (byteAt L 0)
            have k1 := letF_b (byteAt L 1)
            have k2 := letF_b (byteAt L 2)
            unfold sumC
            simp only [kx] at hb ⊢
            repeat' split
            all_goals omega
      omega

/-- What is read and is not right is nothing. -/
theorem parse_bad {s : ByteArray} (h : (parseC s).e ≠ 0) : (parseC s).row = 0 ∧ (parseC s).col = 0 ∧ (parseC s).fixRow = false ∧ (parseC s).fixCol = false := by
  unfold parseC at h ⊢
  split
  · exact ⟨rfl, rfl, rfl, rfl⟩
  · rename_i h1
    rw [if_neg h1] at h
    split
    · exact ⟨rfl, rfl, rfl, rfl⟩
    · rename_i h2
      rw [if_neg h2] at h
      exact absurd rfl h

theorem print_size (r c : Int) (fr fc : Bool) : (printB r c fr fc).size ≤ 1000000 := by
  cases h : okP r c with
  | false => rw [show printB r c fr fc = ByteArray.mk #[] from if_neg (by rw [h]; decide)]; decide
  | true =>
    have hb := okP_b2 h
    have dz := num_size 6 (n := r) (by omega) (by omega)
    have sl := strL_size c
    have s36 : (ByteArray.mk #[36]).size = 1 := rfl
    rw [printB_ok h, size_catS]
    cases fr <;> cases fc <;> simp only [Bool.false_eq_true, if_false, if_true, size_catS, s36] <;> omega

end Go.Sp
namespace Go.Proofs.YtilejaehbgljbaaDoor
open Go Go.Eng Go.Sp
set_option linter.unusedVariables false
set_option linter.unusedSimpArgs false


set_option maxRecDepth 100000 in
theorem back_vc (o : Obj) (r c : Int) (fr fc : Bool) (s : ByteArray) {R : AV → Prop} (h : (∀ (n1 : Nat), n1 = n1 ∧ GT = GT ∧ tabOk o ∧ True ∧ br (ifB (okP r c) (0 : Int) (2 : Int) == (0 : Int)) ((printB r c fr fc).size ≤ (9223372036854775806 : Nat) ∧ ∀ (n2 : Nat), n2 = n2 ∧ n1 = n1 ∧ n2 = n2 ∧ n1 = n1 ∧ br (!((parseC (printB r c fr fc)).row == r && ((parseC (printB r c fr fc)).col == c && true) && ((parseC (printB r c fr fc)).fixRow == fr && ((parseC (printB r c fr fc)).fixCol == fc && true)))) (R (AV.v (Value.bool false))) (br ((parseC (printB r c fr fc)).e != (0 : Int)) (R (AV.v (Value.bool false))) (br (ifB (okC c) (0 : Int) (2 : Int) != (0 : Int)) (R (AV.v (Value.bool false))) (br (colE (strL c) != (0 : Int)) (R (AV.v (Value.bool false))) (n1 = n1 ∧ br (colN (strL c) != c) (R (AV.v (Value.bool false))) (s.size ≤ (9223372036854775806 : Nat) ∧ ∀ (n3 : Nat), n3 = n3 ∧ br ((parseC s).e != (0 : Int)) (n3 = n3 ∧ br ((parseC s).row == (0 : Int) && ((parseC s).col == (0 : Int) && true) && ((parseC s).fixRow == false && ((parseC s).fixCol == false && true))) (R (AV.v (Value.bool true))) (R (AV.v (Value.bool false)))) (n3 = n3 ∧ GT = GT ∧ tabOk o ∧ True ∧ (printB (parseC s).row (parseC s).col (parseC s).fixRow (parseC s).fixCol).size ≤ (9223372036854775806 : Nat) ∧ ∀ (n4 : Nat), n4 = n4 ∧ br (ifB (okP (parseC s).row (parseC s).col) (0 : Int) (2 : Int) == (0 : Int)) (br ((parseC (printB (parseC s).row (parseC s).col (parseC s).fixRow (parseC s).fixCol)).e == (0 : Int)) (n3 = n3 ∧ n4 = n4 ∧ br ((parseC s).row == (parseC (printB (parseC s).row (parseC s).col (parseC s).fixRow (parseC s).fixCol)).row && ((parseC s).col == (parseC (printB (parseC s).row (parseC s).col (parseC s).fixRow (parseC s).fixCol)).col && true) && ((parseC s).fixRow == (parseC (printB (parseC s).row (parseC s).col (parseC s).fixRow (parseC s).fixCol)).fixRow && ((parseC s).fixCol == (parseC (printB (parseC s).row (parseC s).col (parseC s).fixRow (parseC s).fixCol)).fixCol && true))) (R (AV.v (Value.bool true))) (R (AV.v (Value.bool false)))) (R (AV.v (Value.bool false)))) (R (AV.v (Value.bool false)))))))))) (s.size ≤ (9223372036854775806 : Nat) ∧ ∀ (n2 : Nat), n2 = n2 ∧ br ((parseC s).e != (0 : Int)) (n2 = n2 ∧ br ((parseC s).row == (0 : Int) && ((parseC s).col == (0 : Int) && true) && ((parseC s).fixRow == false && ((parseC s).fixCol == false && true))) (R (AV.v (Value.bool true))) (R (AV.v (Value.bool false)))) (n2 = n2 ∧ GT = GT ∧ tabOk o ∧ True ∧ (printB (parseC s).row (parseC s).col (parseC s).fixRow (parseC s).fixCol).size ≤ (9223372036854775806 : Nat) ∧ ∀ (n3 : Nat), n3 = n3 ∧ br (ifB (okP (parseC s).row (parseC s).col) (0 : Int) (2 : Int) == (0 : Int)) (br ((parseC (printB (parseC s).row (parseC s).col (parseC s).fixRow (parseC s).fixCol)).e == (0 : Int)) (n2 = n2 ∧ n3 = n3 ∧ br ((parseC s).row == (parseC (printB (parseC s).row (parseC s).col (parseC s).fixRow (parseC s).fixCol)).row && ((parseC s).col == (parseC (printB (parseC s).row (parseC s).col (parseC s).fixRow (parseC s).fixCol)).col && true) && ((parseC s).fixRow == (parseC (printB (parseC s).row (parseC s).col (parseC s).fixRow (parseC s).fixCol)).fixRow && ((parseC s).fixCol == (parseC (printB (parseC s).row (parseC s).col (parseC s).fixRow (parseC s).fixCol)).fixCol && true))) (R (AV.v (Value.bool true))) (R (AV.v (Value.bool false)))) (R (AV.v (Value.bool false)))) (R (AV.v (Value.bool false))))))) : LC Tryd.prog 5 [.agg [.v (.int .i64 r), .v (.int .i64 c), .v (.bool fr), .v (.bool fc)], .v (.string s)] [tB GT o] (fun z_ _ => R z_) :=
  lc_of_exec (tbl := i0) tab_ok i0_ok mixed noinv 2 _ Tryd.func5 rfl Tryd.ntmps5 (by decide) (by kernel_rfl) (Nat.le_of_ble_eq_true rfl) (@Eq.mpr (execN tab i0 noinv 2 Tryd.f5.ntmps [] none 0 (body Tryd.f5) (argsT [.agg [.v (.int .i64 r), .v (.int .i64 c), .v (.bool fr), .v (.bool fc)], .v (.string s)] 0) [tB GT o] (post Tryd.f5 tab (retK (fun z_ _ => R z_)))) _ (by kernel_rfl) h)


theorem back_law (o : Obj) (ho : tabOk o) (r c : Int) (fr fc : Bool) (s : ByteArray) (_ : -9223372036854775808 ≤ r ∧ r ≤ 9223372036854775807) (_ : -9223372036854775808 ≤ c ∧ c ≤ 9223372036854775807) (hs : s.size ≤ 140737488351232) : LC Tryd.prog 5 [.agg [.v (.int .i64 r), .v (.int .i64 c), .v (.bool fr), .v (.bool fc)], .v (.string s)] [tB GT o] (fun z _ => z = .v (.bool true)) :=
  back_vc o r c fr fc s (by
    intro n1
    have ps := fun a b c d => print_size a b c d
    have p1 := ps r c fr fc
    have p2 := ps (parseC s).row (parseC s).col (parseC s).fixRow (parseC s).fixCol
    have b1 : (printB r c fr fc).size ≤ 9223372036854775806 := by omega
    have b2 : (printB (parseC s).row (parseC s).col (parseC s).fixRow (parseC s).fixCol).size ≤ 9223372036854775806 := by omega
    have b3 : s.size ≤ 9223372036854775806 := by omega
    cases h : okP r c with
    | false =>
      by_cases hE : (parseC s).e = 0
      · have o2 := parse_right hE
        have pp := parse_print o2 (parseC s).fixRow (parseC s).fixCol
        simp [ifB, br_iff, ho, b2, b3, hE, o2, pp]
      · obtain ⟨q1, q2, q3, q4⟩ := parse_bad hE
        simp [ifB, br_iff, ho, b3, hE, q1, q2, q3, q4]
    | true =>
      have hb := okP_b2 h
      obtain ⟨_, _, l3, l4⟩ := strL_facts (c := c) (by omega)
      have pp0 := parse_print h fr fc
      have hok : okC c = true := by rw [okC, decide_eq_true_eq]; omega
      by_cases hE : (parseC s).e = 0
      · have o2 := parse_right hE
        have pp := parse_print o2 (parseC s).fixRow (parseC s).fixCol
        simp [ifB, br_iff, ho, b1, b2, b3, hE, o2, pp, pp0, l3, l4, hok]
      · obtain ⟨q1, q2, q3, q4⟩ := parse_bad hE
        simp [ifB, br_iff, ho, b1, b3, hE, q1, q2, q3, q4, pp0, l3, l4, hok])
end Go.Proofs.YtilejaehbgljbaaDoor

