/- View: columns: words for the turns. -/
import Derived.Test.YthkegefjmcipmaaDoorVE
import Derived.Test.YthkegefjmcipmaaDoorVB
namespace Go.Eng
open Go Go.Sp Go.Proofs.YthkegefjmcipmaaDoor

theorem perm_erase {α : Type} : ∀ {l : List α} {f : Nat} {c : α}, l[f]? = some c → l.Perm (c :: l.eraseIdx f)
  | [], _, _, h => by simp at h
  | a :: l, 0, c, h => by simp at h; subst h; exact List.Perm.refl _
  | a :: l, f + 1, c, h => by
    have := perm_erase (l := l) (f := f) (c := c) (by simpa using h)
    exact (List.Perm.cons a this).trans (List.Perm.swap ..)

abbrev lsB (ln : Nat) (cs : List CD) (Sl : List Nat) (wr : Option (Nat × TypeId)) (foc : Option (Nat × List AV)) : Blk := ⟨ln, .dl Nat ptrD 0 (cs.map CD.num) Sl wr foc, true⟩
abbrev fcH (b0 b1 : Blk) (ln : Nat) (Sl : List Nat) (wr : Option (Nat × TypeId)) (cs : List CD) (f : Nat) (c : CD) (Sr : List Nat) : HH := [b0, b1, lsB ln cs Sl wr (some (f, [.ptr 4 c.num 0])), colsB (cs.eraseIdx f) Sr, cdF c, cdM c]
abbrev clH (b0 b1 : Blk) (ln : Nat) (Sl : List Nat) (wr : Option (Nat × TypeId)) (cs : List CD) (S : List Nat) : HH := [b0, b1, lsB ln cs Sl wr none, colsB cs S]

theorem num_at {cs : List CD} {f : Nat} {c : CD} (h : cs[f]? = some c) : dAt (cs.map CD.num) ptrD.z f = c.num := by
  obtain ⟨h1, h2⟩ := List.getElem?_eq_some_iff.1 h
  rw [dAt_lt (by simpa using h1)]
  simp [h2]

theorem cl_open {b0 b1 : Blk} {ln : Nat} {Sl : List Nat} {wr : Option (Nat × TypeId)} {cs : List CD} {f : Nat} {c : CD} {S : List Nat} {w : World} (hc : cs[f]? = some c) (hw : HoldsH (clH b0 b1 ln Sl wr cs S) w) :
    ∃ Sr, To (clH b0 b1 ln Sl wr cs S) (fcH b0 b1 ln Sl wr cs f c Sr) w := by
  have l1 : LeH (clH b0 b1 ln Sl wr cs S) (colsB cs S :: [b0, b1, lsB ln cs Sl wr none]) := leAt [3, 0, 1, 2] (by decide) ⟨LeB.refl _, LeB.refl _, LeB.refl _, LeB.refl _, trivial⟩
  have t1 := l1.to hw
  obtain ⟨Sr, t2⟩ := cols_open (perm_erase hc) t1.hp
  have l2 : LeH (colsB (cs.eraseIdx f) Sr :: ([b0, b1, lsB ln cs Sl wr none] ++ [cdS c, cdM c])) (fcH b0 b1 ln Sl wr cs f c Sr) := leAt [1, 2, 3, 0, 4, 5] (by decide) ⟨LeB.refl _, LeB.refl _, LeB.dl_foc (fun h => h) (.inr rfl) rfl (by rw [num_at hc]; rfl), LeB.refl _, LeB.cells rfl (fun h => h), LeB.refl _, trivial⟩
  exact ⟨Sr, (t1.trans t2).trans (l2.to t2.hp)⟩

theorem fc_close {b0 b1 : Blk} {ln : Nat} {Sl : List Nat} {wr : Option (Nat × TypeId)} {cs : List CD} {f : Nat} {c c1 : CD} {foc : Option (Nat × List AV)} {Sr : List Nat} {H : HH} {w : World} (hc : cs[f]? = some c) (hn : c1.num = c.num)
    (hw : HoldsH H w) (hl : LeH H [b0, b1, lsB ln cs Sl wr foc, colsB (cs.eraseIdx f) Sr, cdS c1, cdM c1]) : ∃ S, To H (clH b0 b1 ln Sl wr (cs.set f c1) S) w := by
  have t0 := hl.to hw
  have l1 : LeH [b0, b1, lsB ln cs Sl wr foc, colsB (cs.eraseIdx f) Sr, cdS c1, cdM c1] (colsB (cs.eraseIdx f) Sr :: ([b0, b1, lsB ln cs Sl wr none] ++ [cdS c1, cdM c1])) := leAt [3, 0, 1, 2, 4, 5] (by decide) ⟨LeB.refl _, LeB.refl _, LeB.refl _, LeB.dl (fun h => h) (.inr rfl), LeB.refl _, LeB.refl _, trivial⟩
  have t1 := l1.to t0.hp
  obtain ⟨hf, e⟩ := List.getElem?_eq_some_iff.1 hc
  have p : (c1 :: cs.eraseIdx f).Perm (cs.set f c1) := by
    have := perm_erase (l := cs.set f c1) (f := f) (c := c1) (by simp [hf])
    rw [List.eraseIdx_set_eq] at this
    exact this.symm
  obtain ⟨S, t2⟩ := cols_close p t1.hp
  have e2 : (cs.set f c1).map CD.num = cs.map CD.num := by
    rw [List.map_set, hn, ← e]
    have : (cs[f]).num = (cs.map CD.num)[f]'(by simpa using hf) := by simp
    rw [this, List.set_getElem_self]
  have l2 : LeH (colsB (cs.set f c1) S :: [b0, b1, lsB ln cs Sl wr none]) (clH b0 b1 ln Sl wr (cs.set f c1) S) := leAt [1, 2, 3, 0] (by decide) ⟨LeB.refl _, LeB.refl _, (by rw [lsB, lsB, e2]; exact LeB.refl _), LeB.refl _, trivial⟩
  exact ⟨S, ((t0.trans t1).trans t2).trans (l2.to t2.hp)⟩

theorem cols_snoc {b0 b1 Lb : Blk} {cs : List CD} {c : CD} {Sc : List Nat} {H : HH} {w : World} (hw : HoldsH H w) (hl : LeH H (colsB cs Sc :: ([b0, b1, Lb] ++ [cdS c, cdM c]))) : ∃ S, To H [b0, b1, Lb, colsB (cs ++ [c]) S] w := by
  have t1 := hl.to hw
  obtain ⟨S, t2⟩ := cols_close (cs := cs ++ [c]) (List.perm_append_singleton c cs).symm t1.hp
  have l2 : LeH (colsB (cs ++ [c]) S :: [b0, b1, Lb]) [b0, b1, Lb, colsB (cs ++ [c]) S] := leAt [1, 2, 3, 0] (by decide) ⟨LeB.refl _, LeB.refl _, LeB.refl _, LeB.refl _, trivial⟩
  exact ⟨S, (t1.trans t2).trans (l2.to t2.hp)⟩

theorem focC_lt {t lf b rt : Int} (hr : okR t lf b rt = true) (l : List Dw) (i : Nat) : focC l t lf b rt i < (rt - lf + 1).toNat := by
  obtain ⟨r1, r2, r3, r4, r5, r6⟩ := okR_b hr
  unfold focC
  split
  · rename_i h
    unfold inF at h
    simp only [Bool.and_eq_true, decide_eq_true_eq] at h
    omega
  · omega

theorem take_one (l : List Dw) {i : Nat} (h : i < l.length) : l.take (i + 1) = l.take i ++ [dAt l dwD.z i] := by
  rw [List.take_succ_eq_append_getElem h, dAt_lt h]

theorem map_born {n : Nat} : LeB ⟨n, .mapc [] 0, true⟩ ⟨n, .mape (Int × Dw) kyC vlC mkC [] 0, true⟩ :=
  ⟨fun _ h => h, id, fun w h => ⟨h, List.nodup_nil, fun e (he : e ∈ []) => (by cases he), fun k v a h => mkC_eq h⟩⟩

theorem _root_.Go.Sp.colsIs.nil (t b lf : Int) (wid : Nat → Int) : colsIs [] t b lf wid [] 0 :=
  ⟨rfl, fun i c h => (by simp at h), fun i c h => (by simp at h), fun i c h => (by simp at h)⟩

theorem _root_.Go.Sp.colsIs.snoc {t b lf : Int} {cs : List CD} {j : Nat} (h : colsIs [] t b lf (fun _ => 0) cs j) (n m : Nat) : colsIs [] t b lf (fun _ => 0) (cs ++ [⟨n, m, strL (lf + (j : Int)), 0, [], 0⟩]) (j + 1) := by
  have hm : ∀ (i : Nat) (c : CD), (cs ++ [(⟨n, m, strL (lf + (j : Int)), 0, [], 0⟩ : CD)])[i]? = some c → cs[i]? = some c ∨ (i = j ∧ c = ⟨n, m, strL (lf + (j : Int)), 0, [], 0⟩) := fun i c hi => by
    rcases Nat.lt_or_ge i cs.length with h1 | h1
    · rw [List.getElem?_append_left h1] at hi; exact .inl hi
    · rw [List.getElem?_append_right h1] at hi
      have : i - cs.length = 0 := by
        rcases Nat.eq_zero_or_pos (i - cs.length) with h2 | h2
        · exact h2
        · rw [List.getElem?_eq_none (by simp; omega)] at hi; cases hi
      rw [this] at hi
      simp at hi
      exact .inr ⟨by have := h.len; omega, hi.symm⟩
  refine ⟨by rw [List.length_append, h.len]; rfl, fun i c hi => ?_, fun i c hi => ?_, fun i c hi => ?_⟩
  · rcases hm i c hi with h1 | ⟨rfl, rfl⟩
    · exact h.ltr i c h1
    · rfl
  · rcases hm i c hi with h1 | ⟨rfl, rfl⟩
    · exact h.wde i c h1
    · rfl
  · rcases hm i c hi with h1 | ⟨rfl, rfl⟩
    · exact h.ent i c h1
    · exact entsOk.nil ..

theorem _root_.Go.Sp.colsIs.idx {p : List Dw} {t b lf : Int} {wid : Nat → Int} {cs : List CD} {m i : Nat} {c : CD} (h : colsIs p t b lf wid cs m) (hi : cs[i]? = some c) : i < m := by
  have := (List.getElem?_eq_some_iff.1 hi).1
  have := h.len
  omega

/-- Another thing, in no column. -/
theorem _root_.Go.Sp.colsIs.skip {p : List Dw} {t b lf : Int} {wid : Nat → Int} {cs : List CD} {m : Nat} (h : colsIs p t b lf wid cs m) {d : Dw} (hd : ¬ (t ≤ d.row ∧ d.row ≤ b ∧ lf ≤ d.col ∧ d.col < lf + (m : Int))) : colsIs (p ++ [d]) t b lf wid cs m :=
  ⟨h.len, h.ltr, h.wde, fun i c hi => (h.ent i c hi).skip fun e => hd (by have := h.idx hi; omega)⟩

theorem set_get {α : Type} {l : List α} {f i : Nat} {a c : α} (h : (l.set f a)[i]? = some c) : (i = f ∧ c = a) ∨ (i ≠ f ∧ l[i]? = some c) := by
  rw [List.getElem?_set] at h
  split at h
  · rename_i e
    split at h
    · cases h; exact .inl ⟨e.symm, rfl⟩
    · cases h
  · rename_i e
    exact .inr ⟨fun h => e h.symm, h⟩

/-- A thing in its column. -/
theorem _root_.Go.Sp.colsIs.put {p : List Dw} {t b lf : Int} {wid : Nat → Int} {cs : List CD} {m : Nat} (h : colsIs p t b lf wid cs m) {d : Dw} {f : Nat} {c c1 : CD} (hc : cs[f]? = some c) (hf : d.col = lf + (f : Int)) (h1 : c1.letters = c.letters) (h2 : c1.width = c.width) (h3 : entsOk (p ++ [d]) t b (lf + (f : Int)) c1.es c1.clock) : colsIs (p ++ [d]) t b lf wid (cs.set f c1) m := by
  refine ⟨by rw [List.length_set]; exact h.len, fun i c' hi => ?_, fun i c' hi => ?_, fun i c' hi => ?_⟩
  · rcases set_get hi with ⟨rfl, rfl⟩ | ⟨e, hi⟩
    · rw [h1]; exact h.ltr _ _ hc
    · exact h.ltr _ _ hi
  · rcases set_get hi with ⟨rfl, rfl⟩ | ⟨e, hi⟩
    · rw [h2]; exact h.wde _ _ hc
    · exact h.wde _ _ hi
  · rcases set_get hi with ⟨rfl, rfl⟩ | ⟨e, hi⟩
    · exact h3
    · exact (h.ent i c' hi).skip fun e' => e (by omega)

/-- A column's width is told. -/
theorem _root_.Go.Sp.colsIs.wide {p : List Dw} {t b lf : Int} {wid wid' : Nat → Int} {cs : List CD} {m : Nat} (h : colsIs p t b lf wid cs m) {f : Nat} {c c1 : CD} (hc : cs[f]? = some c) (h1 : c1.letters = c.letters) (h2 : c1.width = wid' f) (h3 : c1.es = c.es) (h4 : c1.clock = c.clock) (h5 : ∀ i, i < m → i ≠ f → wid' i = wid i) : colsIs p t b lf wid' (cs.set f c1) m := by
  refine ⟨by rw [List.length_set]; exact h.len, fun i c' hi => ?_, fun i c' hi => ?_, fun i c' hi => ?_⟩
  · rcases set_get hi with ⟨rfl, rfl⟩ | ⟨e, hi⟩
    · rw [h1]; exact h.ltr _ _ hc
    · exact h.ltr _ _ hi
  · rcases set_get hi with ⟨rfl, rfl⟩ | ⟨e, hi⟩
    · exact h2
    · rw [h5 i (h.idx hi) e]; exact h.wde _ _ hi
  · rcases set_get hi with ⟨rfl, rfl⟩ | ⟨e, hi⟩
    · rw [h3, h4]; exact h.ent _ _ hc
    · exact h.ent i c' hi

theorem _root_.Go.Sp.colsIs.some {p : List Dw} {t b lf : Int} {wid : Nat → Int} {cs : List CD} {m : Nat} (h : colsIs p t b lf wid cs m) {f : Nat} (hf : f < m) : ∃ c, cs[f]? = some c :=
  ⟨cs[f]'(by rw [h.len]; exact hf), List.getElem?_eq_getElem _⟩

/-- A width, over all that was seen. -/
theorem width_is {l : List Dw} {most t b lf : Int} {i : Nat} {es : List ((Int × Dw) × Nat)} {ck : Nat} (he : entsOk l t b (lf + (i : Int)) es ck) {w : Int} (hm : 1 ≤ most) (h : ∀ B : Int, w ≤ B ↔ ((strL (lf + (i : Int))).size : Int) ≤ B ∧ ∀ a q, (a, q) ∈ es → min most (a.2.text.size : Int) ≤ B) : w = colW l most t (b - t + 1).toNat (lf + (i : Int)) := by
  have key : ∀ B : Int, w ≤ B ↔ colW l most t (b - t + 1).toNat (lf + (i : Int)) ≤ B := fun B => by
    rw [h B, colW_le]
    constructor
    · rintro ⟨h1, h2⟩
      refine ⟨h1, fun k hk => ?_⟩
      rcases atD_in l (t + (k : Int)) (lf + (i : Int)) with h3 | ⟨h3, h4⟩
      · obtain ⟨g1, g2⟩ := atD_place l (t + (k : Int)) (lf + (i : Int))
        obtain ⟨a, q, ha, e⟩ := he.all _ h3 g2 (by omega) (by omega)
        have := h2 a q ha
        obtain ⟨v1, v2, v3⟩ := he.val a q ha
        rw [v1, e, g1] at this
        exact this
      · rw [h4]
        have : ((ByteArray.mk #[]).size : Int) = 0 := rfl
        show min most ((ByteArray.mk #[]).size : Int) ≤ B
        rw [this]; omega
    · rintro ⟨h1, h2⟩
      refine ⟨h1, fun a q ha => ?_⟩
      obtain ⟨v1, v2, v3⟩ := he.val a q ha
      have := h2 (a.1 - t).toNat (by omega)
      rw [v1]
      rw [show t + ((a.1 - t).toNat : Int) = a.1 by omega] at this
      exact this
  have k1 := (key _).2 (Int.le_refl _)
  have k2 := (key w).1 (Int.le_refl _)
  omega

theorem maps_eq {w : World} {n clock : Nat} {es : List ((Int × Dw) × Nat)} (h : (Cont.mape (Int × Dw) kyC vlC mkC es clock).holds w n) : (es.map (·.2)).Nodup := h.2.1

end Go.Eng

