import Derived.Test.YthnkafambegbcaaG6
namespace Go.Sp
open Go.Eng
theorem put_ok0 {g g' : GV} {r c x code : Int} (h : putO g g' r c x code) (hk : okAt r c = true) (hF : g.F r c = none) (hlt : g.cnt < g.most) : code = 0 ∧ g'.cnt = g.cnt + 1 ∧ g'.F = putF g.F r c (some x) := by
  have := h.is
  unfold putR at this
  rw [if_neg (by simp [hk]), if_neg (fun h => by omega), if_pos hF] at this
  simp only [Prod.mk.injEq] at this
  exact this
theorem put_ok7 {g g' : GV} {r c x code : Int} (h : putO g g' r c x code) (hk : okAt r c = true) (hF : g.F r c = none) (hge : g.cnt ≥ g.most) : code = 7 ∧ g'.cnt = g.cnt ∧ g'.F = g.F := by
  have := h.is
  unfold putR at this
  rw [if_neg (by simp [hk]), if_pos ⟨hF, hge⟩] at this
  simp only [Prod.mk.injEq] at this
  exact this
theorem drop_ok1 {g g' : GV} {r c : Int} {b : Bool} (h : dropO g g' r c b) (hk : okAt r c = true) (hF : g.F r c ≠ none) : b = true ∧ g'.cnt = g.cnt - 1 ∧ g'.F = putF g.F r c none := by
  have := h.is
  unfold dropR at this
  rw [if_pos ⟨hk, hF⟩] at this
  simp only [Prod.mk.injEq] at this
  exact this
end Go.Sp
namespace Go.Proofs.Ythnkafambegbcaa
open Go Go.Eng Go.Sp
set_option linter.unusedVariables false
set_option linter.unusedSimpArgs false
theorem full_of (hl : POk Try.prog 9 lvH) (most n : Int) : LC Try.prog 3 [.v (.int .i64 most), .v (.int .i64 n)] [] (fun z _ => z = .v (.bool true)) := by
  refine full_vc hl most n (R := fun z => z = .v (.bool true)) ?_
  have em : (if (if (4096 : Int) < most then (4096 : Int) else most) > 0 then if (4096 : Int) < most then (4096 : Int) else most else 0) = max 0 (min most 4096) := by omega
  obtain ⟨may, hmay⟩ : ∃ may : Int, may = max 0 (min most 4096) := ⟨_, rfl⟩
  have hm : 0 ≤ may ∧ may ≤ 4096 := by omega
  simp only [em, ← hmay, true_and, and_true]
  refine br_intro (fun _ => trivial) (fun h1 => br_intro (fun _ => trivial) (fun h2 => ?_))
  have hn0 : 0 ≤ n := by simpa using h1
  have hn1 : n ≤ 5000 := by simpa using h2
  intro g hg S
  refine ⟨⟨⟨g, S, 0⟩, ⟨hg.ok, by rw [hg.most, hmay], by rw [hg.cnt]; show (0 : Int) = min ((0 : Nat) : Int) may; omega, ?_, by simpa using hn0⟩, ⟨rfl, rfl⟩, LeH.refl _⟩, fun x hx => br_intro (fun hlt => ?_) (fun hge => ?_)⟩
  · have : (min ((0 : Nat) : Int) may).toNat = 0 := by omega
    show FulO g.F (min ((0 : Nat) : Int) may).toNat
    rw [this, hg.F]
    exact FulO.zero
  · have hlt : (x.i : Int) < n := by simpa using hlt
    refine ⟨by decide, by decide, fun n6 => ⟨x.g, x.S, rfl, rfl, fun g' code ho S' => ?_⟩⟩
    have er : IntKind.i64.wrap (1 + IntKind.i64.wrap ((x.i : Int).tdiv 50)) = 1 + ((x.i / 50 : Nat) : Int) := by
      rw [Int.tdiv_eq_ediv_of_nonneg (by omega), w64 (x := (x.i : Int) / 50) (by omega), w64 (by omega)]; omega
    have ec : IntKind.i64.wrap (1 + IntKind.i64.wrap ((x.i : Int).tmod 50 * 300)) = 1 + ((x.i % 50 : Nat) : Int) * 300 := by
      rw [Int.tmod_eq_emod_of_nonneg (by omega), w64 (x := (x.i : Int) % 50 * 300) (by omega), w64 (by omega)]; omega
    rw [er, ec] at ho
    have hk : okAt (1 + ((x.i / 50 : Nat) : Int)) (1 + ((x.i % 50 : Nat) : Int) * 300) = true := by
      simp only [okAt, Bool.and_eq_true, decide_eq_true_eq]
      omega
    have hF : x.g.F (1 + ((x.i / 50 : Nat) : Int)) (1 + ((x.i % 50 : Nat) : Int) * 300) = none := hx.full.free (by omega)
    have hmost := hx.most
    have hcnt := hx.cnt
    have wi : IntKind.i64.wrap ((x.i : Int) + 1) = (x.i : Int) + 1 := w64 (by omega)
    have next : ∀ m : Int, g'.cnt = min ((x.i + 1 : Nat) : Int) may → FulO g'.F (min ((x.i + 1 : Nat) : Int) may).toNat → ∃ (x' : FX), fulI n may x'.g x'.i ∧ (n - (x'.i : Int)).toNat < (n - (x.i : Int)).toNat ∧ ((i6 (IntKind.i64.wrap ((x.i : Int) + 1))).den = (i6 (x'.i : Int)).den ∧ (AV.ptr 0 x.g.n 0).den = (AV.ptr 0 x'.g.n 0).den) ∧
        LeH [packB grC x.g.n g' S', Blk.mk n6 (Cont.cells [i6 (IntKind.i64.wrap ((1 : Int) + IntKind.i64.wrap ((x.i : Int).tdiv 50))), i6 (IntKind.i64.wrap ((1 : Int) + IntKind.i64.wrap ((x.i : Int).tmod 50 * 300)))] 28) true] [packB grC x'.g.n x'.g x'.S] := fun _ k1 k2 => by
      refine ⟨⟨g', S', x.i + 1⟩, ⟨ho.ok, ho.most.trans hmost, k1, k2, by show ((x.i + 1 : Nat) : Int) ≤ n; omega⟩, by show (n - ((x.i + 1 : Nat) : Int)).toNat < _; omega, ⟨by rw [wi]; rfl, by show _ = (AV.ptr 0 g'.n 0).den; rw [ho.n]⟩, ?_⟩
      show LeH _ [packB grC g'.n g' S']
      rw [ho.n]
      exact leAt [0] (by decide) ⟨LeB.refl _, trivial⟩
    by_cases hlm : (x.i : Int) < may
    · obtain ⟨rfl, c1, c2⟩ := put_ok0 ho hk hF (by omega)
      refine br_intro (fun hb => ?_) (fun _ => br_intro (fun hb => ?_) (fun _ => ?_))
      · simp [hlm] at hb
      · simp at hb
      · refine next 0 (by omega) ?_
        rw [c2, show (min ((x.i + 1 : Nat) : Int) may).toNat = x.i + 1 by omega]
        have := hx.full
        rw [show (min (x.i : Int) may).toNat = x.i by omega] at this
        exact this.step _
    · obtain ⟨rfl, c1, c2⟩ := put_ok7 ho hk hF (by omega)
      refine br_intro (fun hb => ?_) (fun _ => br_intro (fun _ => br_intro (fun hb => ?_) (fun _ => ?_)) (fun hb => ?_))
      · simp [hlm] at hb
      · simp at hb
      · refine next 0 (by omega) ?_
        have := hx.full
        rw [show (min (x.i : Int) may).toNat = may.toNat by omega] at this
        rw [c2, show (min ((x.i + 1 : Nat) : Int) may).toNat = may.toNat by omega]
        exact this
      · simp at hb
  · have hge : ¬ (x.i : Int) < n := by simpa using hge
    have hxn : (x.i : Int) = n := by have := hx.le; omega
    have hcnt := hx.cnt
    have hmost := hx.most
    have fin : ∀ {y : GV} {S' : List Nat}, y.n = x.g.n → y.cnt = min n may → ∃ (g : GV), ∃ (S : List Nat), some (packB grC x.g.n y S') = some (packB grC g.n g S) ∧ x.g.n = g.n ∧ br (g.cnt == if may < n then may else n) True ((AV.v (Value.bool false)) = AV.v (.bool true)) := fun {y S'} k1 k2 => by
      refine ⟨y, S', by rw [k1], k1.symm, br_intro (fun _ => trivial) (fun hb => ?_)⟩
      rw [k2] at hb
      have : ¬ (min n may = if may < n then may else n) := by simpa using hb
      exact absurd (by split <;> omega) this
    refine br_intro (fun hnm => br_intro (fun hm0 => ?_) (fun _ => ?_)) (fun _ => ?_)
    · have hnm : n > may := by simpa using hnm
      have hm0 : may > 0 := by simpa using hm0
      have full := hx.full
      rw [show (min (x.i : Int) may).toNat = may.toNat by omega] at full
      have hm1 : 0 < may.toNat := by omega
      have hm5 : may.toNat ≤ 5000 := by omega
      refine fun n6 => ⟨x.g, x.S, rfl, rfl, fun g1 b1 o1 S1 => ?_⟩
      obtain ⟨rfl, c1, f1⟩ := drop_ok1 o1 (by decide) (full.one hm1)
      refine br_intro (fun hb => by simp at hb) (fun _ n13 => ⟨g1, S1, by rw [o1.n], o1.n.symm, fun g2 code2 o2 S2 => ?_⟩)
      have n2 := o2.n.trans o1.n
      have hF2 : g1.F 1048576 16384 = none := by rw [f1]; simp only [putF]; rw [if_neg (by omega)]; exact full.far hm5
      have m1 := o1.most
      obtain ⟨rfl, c2, f2⟩ := put_ok0 o2 (by decide) hF2 (by omega)
      refine br_intro (fun hb => by simp at hb) (fun _ n20 => ⟨g2, S2, by rw [n2], n2.symm, fun g3 code3 o3 S3 => ?_⟩)
      have n3 := o3.n.trans n2
      have m2 := o2.most
      have hF3 : g2.F 9 9 = none := by rw [f2, f1]; simp only [putF]; rw [if_neg (by omega), if_neg (by omega)]; exact full.nine
      obtain ⟨rfl, c3, f3⟩ := put_ok7 o3 (by decide) hF3 (by omega)
      exact br_intro (fun hb => by simp at hb) (fun _ => fin n3 (by omega))
    · exact fin rfl (by omega)
    · exact fin rfl (by omega)
end Go.Proofs.Ythnkafambegbcaa
