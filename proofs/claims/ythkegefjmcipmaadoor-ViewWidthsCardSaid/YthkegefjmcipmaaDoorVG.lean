/- View: columns: what they are. -/
import Derived.Test.YthkegefjmcipmaaDoorVF
namespace Go.Proofs.YthkegefjmcipmaaDoor
open Go Go.Eng Go.Sp
set_option linter.unusedVariables false
set_option linter.unusedSimpArgs false

set_option maxHeartbeats 4000000 in
theorem cols_lc (t lf b rt : Int) (l : List Dw) (a : Option Addr) (n o cap : Nat) (S : List Nat) (most : Int) (hr : okR t lf b rt = true) (hm : 1 ≤ most ∧ most ≤ 60) (ha : (b - t + 1) * (rt - lf + 1) ≤ 4096) (hl : l.length ≤ 1048576) :
    LC Tryd.prog 24 [.agg [.v (.int .i64 t), .v (.int .i64 lf), .v (.int .i64 b), .v (.int .i64 rt)], .os 0 a n o 0 4 l.length cap, .v (.int .i64 most)] [rD dwD n o l S false] (fun z H' =>
      ∃ (a : Option Addr) (nn c : Nat) (Sl : List Nat) (cs : List CD) (Sc : List Nat), z.den = (AV.os 0 a nn 0 0 1 (rt - lf + 1).toNat c).den ∧ colsIs l t b lf (fun j => colW l most t (b - t + 1).toNat (lf + (j : Int))) cs (rt - lf + 1).toNat ∧
        LeH H' [⟨nn, .dl Nat ptrD 0 (cs.map CD.num) Sl none none, true⟩, colsB cs Sc]) :=
  cols_vc t lf b rt l a n o cap S most (by
    simp only [true_and, and_true, Int.toNat_natCast, Nat.zero_add, Nat.le_refl, List.set_cons_succ, List.set_cons_zero]
    obtain ⟨r1, r2, r3, r4, r5, r6⟩ := okR_b hr
    have mpos : 0 < (rt - lf + 1).toNat := by omega
    intro n1
    refine ⟨fun w hw => ?_, fun x hx => ?_⟩
    · have l1 : ∀ b1 : Blk, LeH [rD dwD n o l S false, b1] [rD dwD n o l S false, b1, wD ptrD 0 [] [] 0 60, colsB [] []] := fun b1 =>
        (LeH.more (H := [rD dwD n o l S false, b1]) (b := wD ptrD 0 [] [] 0 60) rfl fun w => dl_nil ptrD_ok (.inr ⟨_, rfl, rfl⟩)).trans (LeH.more (H := [rD dwD n o l S false, b1, wD ptrD 0 [] [] 0 60]) (b := colsB [] []) rfl colsB_nil)
      exact ⟨⟨0, none, 0, 0, [], [], []⟩, ⟨Nat.zero_le _, fun _ => .inl rfl, Nat.le_refl _, colsIs.nil ..⟩, ⟨by simp, rfl⟩, (l1 _).to hw⟩
    obtain ⟨x1, x2, x3, x4⟩ := hx
    refine br_intro (fun hle n4 n5 n6 => ?_) (fun hgt => ?_)
    · have hle := of_decide_eq_true hle
      refine ⟨by rw [List.length_map, x4.len]; exact Nat.le_refl _, x2, x3, ⟨by omega, by omega⟩, fun a' n8 n9 S' k1 k2 w hw => ?_⟩
      rw [List.take_of_length_le (by rw [List.length_map, x4.len]; exact Nat.le_refl _)] at hw ⊢
      obtain ⟨S2, t2⟩ := cols_snoc (c := ⟨n5, n4, strL (lf + (x.j : Int)), 0, [], 0⟩) hw (leAt [3, 0, 1, 2, 5, 4] (by decide) ⟨LeB.refl _, LeB.refl _, LeB.refl _, LeB.refl _, LeB.cells rfl (fun h => h), map_born, trivial⟩)
      refine ⟨⟨x.j + 1, a', n8, n9, S', x.cs ++ [⟨n5, n4, strL (lf + (x.j : Int)), 0, [], 0⟩], S2⟩, ⟨by show x.j + 1 ≤ _; omega, k2, k1, x4.snoc n5 n4⟩, by show _ - (x.j + 1) < _; omega, ⟨by rw [w64 (by omega)]; simp only [AV.den]; congr 1; omega, rfl⟩, ?_⟩
      rw [List.map_append]
      exact t2
    have hj : x.j = (rt - lf + 1).toNat := by have := of_decide_eq_false hgt; omega
    have hcast : (x.j : Int) = rt - lf + 1 := by omega
    refine ⟨fun w hw => ?_, fun y hy => ?_⟩
    · obtain ⟨c, hc⟩ := x4.some (f := focC l t lf b rt 0) (by rw [hj]; exact focC_lt hr l 0)
      obtain ⟨Sr, t1⟩ := cl_open hc hw
      exact ⟨⟨0, _, c, x.cs, Sr⟩, ⟨Nat.zero_le _, hc, rfl, by rw [List.take_zero]; exact hj ▸ x4⟩, rfl, t1⟩
    obtain ⟨y1, y2, y3, y4⟩ := hy
    have go : ∀ {H : HH} {w : World} {c1 : CD} (i : Nat), i = y.i + 1 → i ≤ l.length → ∀ {b0 b1 : Blk} {ln : Nat} {Sl : List Nat} {wr : Option (Nat × TypeId)} {S : List Nat}, To H (clH b0 b1 ln Sl wr (y.cs.set y.f c1) S) w → colsIs (l.take i) t b lf (fun _ => 0) (y.cs.set y.f c1) (rt - lf + 1).toNat → ∃ z : FX, (z.i ≤ l.length ∧ z.cs[z.f]? = some z.c ∧ z.f = focC l t lf b rt z.i ∧ colsIs (l.take z.i) t b lf (fun _ => 0) z.cs (rt - lf + 1).toNat) ∧ l.length - z.i < l.length - y.i ∧ (AV.v (.int .i64 (IntKind.i64.wrap ((y.i : Int) + 1)))).den = (AV.v (.int .i64 (z.i : Int))).den ∧ To H (fcH b0 b1 ln Sl wr z.cs z.f z.c z.Sr) w := by
      rintro H w c1 i rfl hi b0 b1 ln Sl wr S t2 h5
      obtain ⟨c2, hc2⟩ := h5.some (focC_lt hr l (y.i + 1))
      obtain ⟨Sr2, t3⟩ := cl_open hc2 t2.hp
      exact ⟨⟨y.i + 1, _, c2, _, Sr2⟩, ⟨hi, hc2, rfl, h5⟩, by show l.length - (y.i + 1) < _; omega, by rw [w64 (by omega)]; rfl, t2.trans t3⟩
    refine br_intro (fun hlt => ?_) (fun hge => ?_)
    · have hlt : y.i < l.length := by have := of_decide_eq_true hlt; omega
      refine ⟨⟨by omega, by omega⟩, hlt, fun n6 => br_intro (fun hin => ?_) (fun hnin => ?_)⟩
      · have hin' := hin
        unfold inF at hin'
        simp only [Bool.and_eq_true, decide_eq_true_eq] at hin'
        have ew : IntKind.i64.wrap ((dAt l dwD.z y.i).col - lf) = (dAt l dwD.z y.i).col - lf := w64 (by omega)
        have hf : y.f = ((dAt l dwD.z y.i).col - lf).toNat := by rw [y3, focC, if_pos hin]
        have hc : (dAt l dwD.z y.i).col = lf + (y.f : Int) := by omega
        have hent := y4.ent _ _ y2
        rw [ew]
        refine ⟨⟨by omega, by omega⟩, by rw [List.length_map, y4.len]; omega, hf.symm, fun a3 q hq => br_intro (fun he w hw => ?_) (fun _ => trivial), fun hno w hw => ?_⟩
        · have he : (dAt l dwD.z y.i).row = a3.1 := by simpa using he
          obtain ⟨S2, t2⟩ := fc_close (c1 := { y.c with es := setE y.c.es q ((dAt l dwD.z y.i).row, dAt l dwD.z y.i) }) y2 rfl hw (leAt [0, 1, 2, 3, 4, 5] (by decide) ⟨LeB.refl _, LeB.refl _, LeB.refl _, LeB.refl _, LeB.cells rfl (fun h => h), LeB.refl _, trivial⟩)
          exact go _ rfl hlt t2 (by
            rw [take_one l hlt]
            exact y4.put y2 hc rfl rfl (hent.set hc hin'.2.1 hin'.2.2.1 hq he.symm))
        · obtain ⟨S2, t2⟩ := fc_close (c1 := { y.c with es := y.c.es ++ [(((dAt l dwD.z y.i).row, dAt l dwD.z y.i), y.c.clock)], clock := y.c.clock + 1 }) y2 rfl hw (leAt [0, 1, 2, 3, 4, 5] (by decide) ⟨LeB.refl _, LeB.refl _, LeB.refl _, LeB.refl _, LeB.cells rfl (fun h => h), LeB.refl _, trivial⟩)
          exact go _ rfl hlt t2 (by
            rw [take_one l hlt]
            exact y4.put y2 hc rfl rfl (hent.add hc hin'.2.1 hin'.2.2.1 fun a' q' h' e => by have := hno a' q' h'; simp [e] at this))
      · intro w hw
        obtain ⟨S2, t2⟩ := fc_close (c1 := y.c) y2 rfl hw (leAt [0, 1, 2, 3, 4, 5] (by decide) ⟨LeB.refl _, LeB.refl _, LeB.refl _, LeB.refl _, LeB.cells rfl (fun h => h), LeB.refl _, trivial⟩)
        exact go _ rfl hlt t2 (by
          rw [take_one l hlt]
          have e : y.cs.set y.f y.c = y.cs := by
            obtain ⟨h1, h2⟩ := List.getElem?_eq_some_iff.1 y2
            rw [← h2, List.set_getElem_self]
          rw [e]
          refine y4.skip fun hd => ?_
          unfold inF at hnin
          simp only [hr, Bool.true_and, decide_eq_false_iff_not] at hnin
          omega)
    have hge : y.i = l.length := by have := of_decide_eq_false hge; omega
    have y5 : colsIs l t b lf (fun _ => 0) y.cs (rt - lf + 1).toNat := by
      have := y4
      rw [hge, List.take_length] at this
      exact this
    refine ⟨fun w hw => .inl ?_, fun z hz => ?_, fun z hz => ?_⟩
    · obtain ⟨S2, t2⟩ := fc_close (c1 := y.c) y2 rfl hw (leAt [0, 1, 2, 3, 4, 5] (by decide) ⟨LeB.refl _, LeB.refl _, LeB.refl _, LeB.refl _, LeB.cells rfl (fun h => h), LeB.refl _, trivial⟩)
      have e : y.cs.set y.f y.c = y.cs := by
        obtain ⟨h1, h2⟩ := List.getElem?_eq_some_iff.1 y2
        rw [← h2, List.set_getElem_self]
      rw [e] at t2
      obtain ⟨c, hc⟩ := y5.some mpos
      obtain ⟨Sr, t3⟩ := cl_open hc t2.hp
      exact ⟨⟨0, 0, c, y.cs, Sr⟩, ⟨mpos, hc, by simpa using y5⟩, rfl, t2.trans t3⟩
    · obtain ⟨z1, z2, z3⟩ := hz
      refine br_intro (fun _ => ?_) (fun h => absurd (of_decide_eq_false h) (by omega))
      refine ⟨⟨by omega, by omega⟩, by rw [List.length_map, z3.len]; exact z1, fun n8 => ⟨⟨([], _), ⟨List.nodup_nil, fun q hq => (by cases hq), fun B => ⟨fun h => ⟨h, fun a q _ hq => (by cases hq)⟩, fun h => h.1⟩⟩, LeH.refl _⟩, fun u hu => ?_⟩⟩
      obtain ⟨u1, u2, u3⟩ := hu
      have zent := z3.ent _ _ z2
      refine ⟨fun a q hq hn => ⟨⟨a, hq⟩, fun a' hq' n17 => ?_⟩, fun hall w hw => ?_⟩
      · have hle : (q :: u.1).length ≤ z.c.es.length := by
          have := List.Nodup.length_le_of_subset (l₂ := z.c.es.map (·.2)) (List.nodup_cons.2 ⟨hn, u1⟩) (fun c hc => by
            rcases List.mem_cons.1 hc with rfl | hc
            · exact List.mem_map.2 ⟨_, hq, rfl⟩
            · exact u2 c hc)
          simpa using this
        refine ⟨(q :: u.1, _), ⟨List.nodup_cons.2 ⟨hn, u1⟩, fun c hc => ?_, fun B => ?_⟩, ?_, leAt [0, 1, 2, 3, 4, 5, 6] (by decide) ⟨LeB.refl _, LeB.refl _, LeB.refl _, LeB.refl _, LeB.refl _, LeB.refl _, LeB.refl _, trivial⟩⟩
        · rcases List.mem_cons.1 hc with rfl | hc
          · exact List.mem_map.2 ⟨_, hq, rfl⟩
          · exact u2 c hc
        · have e : ∀ A : Int, (if (if A < most then A else most) > u.2 then if A < most then A else most else u.2) ≤ B ↔ u.2 ≤ B ∧ min most A ≤ B := fun A => by
            repeat' split
            all_goals omega
          refine (e _).trans ?_
          rw [u3 B]
          constructor
          · rintro ⟨⟨g1, g2⟩, g3⟩
            refine ⟨g1, fun a2 q2 h2 h3 => ?_⟩
            rcases List.mem_cons.1 h3 with rfl | h3
            · rw [born_uniq zent.born h2 hq']; exact g3
            · exact g2 a2 q2 h2 h3
          · rintro ⟨g1, g2⟩
            exact ⟨⟨g1, fun a2 q2 h2 h3 => g2 a2 q2 h2 (List.mem_cons_of_mem _ h3)⟩, g2 a' q hq' (List.mem_cons_self ..)⟩
        · show _ - (q :: u.1).length < _
          simp only [List.length_cons] at hle ⊢
          omega
      · have ew : u.2 = colW l most t (b - t + 1).toNat (lf + (z.i : Int)) := width_is zent hm.1 fun B => by
          rw [u3 B, z3.ltr _ _ z2]
          exact ⟨fun h => ⟨h.1, fun a q ha => h.2 a q ha (hall a q ha)⟩, fun h => ⟨h.1, fun a q ha _ => h.2 a q ha⟩⟩
        obtain ⟨S2, t2⟩ := fc_close (c1 := { z.c with width := u.2 }) z2 rfl hw (leAt [0, 1, 2, 3, 4, 5] (by decide) ⟨LeB.refl _, LeB.refl _, LeB.refl _, LeB.refl _, LeB.cells rfl (fun h => h), LeB.refl _, trivial⟩)
        have z4 : colsIs l t b lf (fun j => if j < z.i + 1 then colW l most t (b - t + 1).toNat (lf + (j : Int)) else 0) (z.cs.set z.i { z.c with width := u.2 }) (rt - lf + 1).toNat := z3.wide z2 rfl (by
          show u.2 = if z.i < z.i + 1 then _ else _
          rw [if_pos (by omega)]; exact ew) rfl rfl (fun j h1 h2 => by
          by_cases h3 : j < z.i
          · simp only [if_pos h3, if_pos (show j < z.i + 1 by omega)]
          · simp only [if_neg h3, if_neg (show ¬ j < z.i + 1 by omega)])
        by_cases hz : z.i + 1 < (rt - lf + 1).toNat
        · refine .inl ?_
          obtain ⟨c, hc⟩ := z4.some hz
          obtain ⟨Sr, t3⟩ := cl_open hc t2.hp
          exact ⟨⟨z.i + 1, 0, c, _, Sr⟩, ⟨hz, hc, z4⟩, by show _ - (z.i + 1) < _; omega, by rw [w64 (by omega)]; rfl, t2.trans t3⟩
        · refine .inr ⟨⟨0, 0, z.c, _, S2⟩, ?_, by omega, by rw [w64 (by omega)]; simp only [AV.den]; congr 1; omega, t2⟩
          refine ⟨z4.len, z4.ltr, fun i c hi => ?_, z4.ent⟩
          have := z4.wde i c hi
          simp only [if_pos (show i < z.i + 1 by have := z4.idx hi; omega)] at this
          exact this
    · refine br_intro (fun h => absurd (of_decide_eq_true h) (by omega)) (fun _ => ?_)
      exact ⟨x.a, x.n, x.cap, x.S, z.cs, z.Sr, by rw [hj]; rfl, hz, leAt [2, 3] (by decide) ⟨LeB.dl (fun h => h) (.inl rfl), LeB.refl _, trivial⟩⟩)

end Go.Proofs.YthkegefjmcipmaaDoor

