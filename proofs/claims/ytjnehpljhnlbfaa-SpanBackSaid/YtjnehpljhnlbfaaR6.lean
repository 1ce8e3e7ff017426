/- Span: behind an insertion and its Back: proved. -/
import Derived.Test.YtjnehpljhnlbfaaR5
namespace Go.Sp
open Go Go.Eng Go.Op Go.Proofs.Ytjnehpljhnlbfaa

theorem getL_in {L : List (Int × RC)} (hn : (L.map (·.1)).Nodup) {id : Int} {q : RC} (h : (id, q) ∈ L) : getL L id = some q := by
  cases hg : getL L id with
  | none =>
    unfold getL at hg
    cases hf : L.find? fun x => x.1 == id with
    | none =>
      have := List.find?_eq_none.1 hf _ h
      simp at this
    | some x => rw [hf] at hg; cases hg
  | some q' =>
    have := nodup_inj hn h (getL_mem hg) rfl
    cases this
    rfl

end Go.Sp
namespace Go.Proofs.Ytjnehpljhnlbfaa
open Go Go.Eng Go.Sp Go.Op
set_option linter.unusedVariables false
set_option linter.unusedSimpArgs false

set_option maxHeartbeats 1000000 in
theorem back_law (a_ : Option Addr) (n o len cap : Nat) (g0 g1 g2 g3 : Nat → Int) (S : List Nat) (k a c : Int) (hlen : len ≤ 9223372036854775807) :
    LC Try.prog 5 [.os 0 a_ n o 0 4 len cap, .agg [.v (.int .i64 k), .v (.int .i64 a), .v (.int .i64 c)]] [rxB n o len g0 g1 g2 g3 S false] (fun z _ => z = .v (.bool true)) :=
  bck_vc a_ n o len cap g0 g1 g2 g3 S k a c (by
    intro n1
    refine ⟨g0, g1, g2, g3, S, false, rfl, hlen, fun s hs S' => ⟨br_intro (fun _ w hw => ⟨true, fun h => (by cases h), ⟨rfl, rfl, rfl, rfl, rfl, trivial⟩, To.refl hw⟩) (fun h200 => ⟨rfl, br_intro (fun h1 => ⟨rfl, br_intro (fun _ w hw => ⟨true, fun h => (by cases h), ⟨rfl, rfl, rfl, rfl, rfl, trivial⟩, To.refl hw⟩) (fun h3 => ⟨rfl, fun w hw => ⟨_, fun h => ?_, ⟨rfl, rfl, rfl, rfl, rfl, trivial⟩, To.refl hw⟩⟩)⟩) (fun h1 => ⟨rfl, fun w hw => ⟨_, fun h => ?_, ⟨rfl, rfl, rfl, rfl, rfl, trivial⟩, To.refl hw⟩⟩)⟩), fun e he => br_intro (fun _ => rfl) (fun hef => ?_)⟩⟩
    · have h200 := of_decide_eq_false h200
      refine ⟨.inr (by simpa using h3), ?_, by omega⟩
      cases hr : rightF k a c with
      | true => rfl
      | false => rw [hr] at h; cases h
    · have h200 := of_decide_eq_false h200
      refine ⟨.inl (by simpa using h1), ?_, by omega⟩
      cases hr : rightF k a c with
      | true => rfl
      | false => rw [hr] at h; cases h
    obtain ⟨hkind, hright, hfew⟩ := he hef
    have hins : insF k = true := by rcases hkind with rfl | rfl <;> rfl
    refine ⟨⟨0, ⟨Nat.zero_le _, fun j hj => absurd hj (Nat.not_lt_zero _)⟩, ⟨rfl, rfl, rfl, rfl, rfl, trivial⟩, LeH.refl _⟩, fun i hi => ?_⟩
    obtain ⟨hi, hcl⟩ := hi
    have hi2 : 0 + (i : Int).toNat = i := by omega
    refine br_intro (fun hlt => ?_) (fun hge => ?_)
    · have hlt := of_decide_eq_true hlt
      have hw : IntKind.i64.wrap ((i : Int) + 1) = ((i + 1 : Nat) : Int) := by rw [w64 (by omega)]; rfl
      rw [hi2, hw]
      have more : clF k a c (g0 i) (g1 i) (g2 i) (g3 i) = false → ∀ j, j < i + 1 → clF k a c (rcs g0 g1 g2 g3 j).t (rcs g0 g1 g2 g3 j).l (rcs g0 g1 g2 g3 j).b (rcs g0 g1 g2 g3 j).r = false := fun h j hj => by
        rcases Nat.lt_or_ge j i with h2 | h2
        · exact hcl j h2
        · obtain rfl : j = i := by omega
          exact h
      refine ⟨rfl, by omega, rfl, rfl, by omega, br_intro (fun hc => br_intro (fun _ => rfl) (fun hg => ?_)) (fun hc => ⟨i + 1, ⟨by omega, more hc⟩, by omega, ⟨rfl, rfl, rfl, rfl, rfl, trivial⟩, LeH.refl _⟩)⟩
      have hg' : goodR k a c (g0 i) (g1 i) (g2 i) (g3 i) = false := by
        cases h : goodR k a c (g0 i) (g1 i) (g2 i) (g3 i) with
        | false => rfl
        | true => rw [h] at hg; cases hg
      unfold clF at hc
      rw [hg'] at hc
      cases hc
    · have hge := of_decide_eq_false hge
      obtain rfl : i = len := by omega
      have hL : s.L = ofR (rcs g0 g1 g2 g3) i := by rw [hs.is, ofL_eq _ (by omega)]
      have hQ : ∀ id q, getL s.L id = some q → okQ q = true ∧ clF k a c q.t q.l q.b q.r = false := fun id q h => by
        have h1 := getL_mem h
        rw [hL] at h1
        obtain ⟨j, h2, h3, h4⟩ := ofR_mem.1 h1
        cases h4
        exact ⟨h3, hcl j h2⟩
      refine ⟨rfl, fun n13 => ⟨rfl, rfl, s, S', rfl, rfl, fun s1 g code b n20 n21 Sg hm1 S1 => ⟨rfl, s1, S1, by rw [hm1.n], hm1.n.symm, fun s2 g2_ code2 b2 n31 n32 Sg2 hm2 S2 => ?_⟩⟩⟩
      have x1 : ifB (rightF k a c) (backK k) 0 = backK k := by rw [hright]; rfl
      have x2 : ifB (rightF k a c) a 0 = a := by rw [hright]; rfl
      have x3 : ifB (rightF k a c) c 0 = c := by rw [hright]; rfl
      rw [x1, x2, x3] at hm2
      have y1 := hm1.is
      unfold moveL at y1
      rw [if_pos hright] at y1
      obtain ⟨l1, r1⟩ := Prod.mk.inj y1
      obtain ⟨gg1, cc1⟩ := Prod.mk.inj r1
      have y2 := hm2.is
      unfold moveL at y2
      rw [if_pos (back_right hright)] at y2
      obtain ⟨l2, r2⟩ := Prod.mk.inj y2
      obtain ⟨gg2, cc2⟩ := Prod.mk.inj r2
      have G1 : ∀ id, getL s1.L id = (getL s.L id).map (rcQ k a c) := fun id => by
        rw [l1, getL_moved]
        cases hg : getL s.L id with
        | none => rfl
        | some q =>
          obtain ⟨q1, q2⟩ := hQ id q hg
          simp only [Option.bind_some, Option.map_some]
          rw [if_pos (rc_back hright q1 hins q2).1]
      have G2 : ∀ id, getL s2.L id = getL s.L id := fun id => by
        rw [l2, getL_moved, G1]
        cases hg : getL s.L id with
        | none => rfl
        | some q =>
          obtain ⟨q1, q2⟩ := hQ id q hg
          obtain ⟨_, _, z3, z4⟩ := rc_back hright q1 hins q2
          simp only [Option.bind_some, Option.map_some]
          rw [if_pos z3, z4]
      have n1' : g = [] := by
        rw [gg1]
        exact gonN_nil fun id q hg => (rc_back hright (hQ id q hg).1 hins (hQ id q hg).2).1
      have n2' : g2_ = [] := by
        rw [gg2]
        refine gonN_nil fun id q hg => ?_
        rw [G1] at hg
        cases hg0 : getL s.L id with
        | none => rw [hg0] at hg; cases hg
        | some q0 =>
          rw [hg0] at hg
          cases hg
          exact (rc_back hright (hQ id q0 hg0).1 hins (hQ id q0 hg0).2).2.2.1
      subst cc1 cc2 n1' n2'
      refine ⟨⟨0, Nat.zero_le _, ⟨rfl, rfl, rfl, rfl, trivial⟩, LeH.refl _⟩, fun j hj => ?_⟩
      have hj2 : 0 + (j : Int).toNat = j := by omega
      refine br_intro (fun hlt => ?_) (fun _ => rfl)
      have hlt := of_decide_eq_true hlt
      have hw : IntKind.i64.wrap ((j : Int) + 1) = ((j + 1 : Nat) : Int) := by rw [w64 (by omega)]; rfl
      rw [hj2, hw]
      have hj3 : j < i := by omega
      refine ⟨s2, S2, by rw [hm2.n, hm1.n], by rw [hm2.n, hm1.n], fun q hq n42 => ?_, fun hno n41 => ?_⟩
      · rw [G2] at hq
        have h1 := getL_mem hq
        rw [hL] at h1
        obtain ⟨m, h2, h3, h4⟩ := ofR_mem.1 h1
        obtain ⟨h5, h6⟩ := Prod.mk.inj h4
        obtain rfl : j = m := by omega
        have h3' : okR (g0 j) (g1 j) (g2 j) (g3 j) = true := h3
        refine ⟨rfl, by omega, rfl, rfl, hj3, br_intro (fun h => ?_) (fun _ => ⟨rfl, by omega, rfl, rfl, hj3, br_intro (fun h => ?_) (fun _ => ⟨j + 1, by omega, by omega, ⟨rfl, rfl, rfl, rfl, trivial⟩, leAt [0, 1, 2, 3, 4, 5] (by decide) ⟨LeB.refl _, LeB.refl _, LeB.refl _, LeB.refl _, LeB.refl _, LeB.refl _, trivial⟩⟩)⟩)⟩
        · rw [h3'] at h
          cases h
        · rw [h6] at h
          simp [rcs] at h
      · have hno' : okR (g0 j) (g1 j) (g2 j) (g3 j) = false := by
          cases h : okR (g0 j) (g1 j) (g2 j) (g3 j) with
          | false => rfl
          | true =>
            have : ((j : Int), rcs g0 g1 g2 g3 j) ∈ s.L := by
              rw [hL]
              exact ofR_mem.2 ⟨j, hj3, h, rfl⟩
            have h2 := getL_in hs.ok.ids this
            rw [G2, h2] at hno
            cases hno
        refine ⟨rfl, by omega, rfl, rfl, hj3, br_intro (fun h => ?_) (fun _ => ⟨j + 1, by omega, by omega, ⟨rfl, rfl, rfl, rfl, trivial⟩, leAt [0, 1, 2, 3, 4, 5] (by decide) ⟨LeB.refl _, LeB.refl _, LeB.refl _, LeB.refl _, LeB.refl _, LeB.refl _, trivial⟩⟩)⟩
        rw [hno'] at h
        cases h)

end Go.Proofs.Ytjnehpljhnlbfaa

