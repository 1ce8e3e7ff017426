/- Span: the law of heights: proved. -/
import Derived.Test.YtjnehpljhnlbfaaS3
namespace Go.Eng
open Go Go.Sp Go.Proofs.Ytjnehpljhnlbfaa

theorem filt_len {id : Int} : ∀ {l : List (Int × RC)}, (l.map (·.1)).Nodup → id ∈ l.map (·.1) → (l.filter fun x => !(x.1 == id)).length + 1 = l.length
  | [], _, h => by cases h
  | x :: l, hn, hm => by
    rw [List.map_cons, List.nodup_cons] at hn
    by_cases e : x.1 = id
    · rw [List.filter_cons_of_neg (by simp [e]), List.filter_eq_self.2 fun y hy => by
        have : y.1 ≠ id := fun h => hn.1 (List.mem_map.2 ⟨y, hy, by rw [h, e]⟩)
        simpa using this]
      rfl
    · rw [List.filter_cons_of_pos (by simpa using e)]
      have hm2 : id ∈ l.map (·.1) := by
        rcases List.mem_cons.1 (show id ∈ x.1 :: l.map (·.1) from hm) with h | h
        · exact absurd h.symm e
        · exact h
      have := filt_len hn.2 hm2
      rw [List.length_cons, List.length_cons, this]

theorem u64_nn (x : Int) : 0 ≤ IntKind.u64.wrap x := by
  rw [IntKind.wrap_u64]
  omega

end Go.Eng
namespace Go.Proofs.Ytjnehpljhnlbfaa
open Go Go.Eng Go.Sp
set_option linter.unusedVariables false
set_option linter.unusedSimpArgs false

set_option maxHeartbeats 1000000 in
theorem tall_law (n by_ high : Int) (hn : -9223372036854775808 ≤ n ∧ n ≤ 9223372036854775807) (hb : -9223372036854775808 ≤ by_ ∧ by_ ≤ 9223372036854775807) (hh : -9223372036854775808 ≤ high ∧ high ≤ 9223372036854775807) :
    LC Try.prog 8 [.v (.int .i64 n), .v (.int .i64 by_), .v (.int .i64 high)] [] (fun z _ => z = .v (.bool true)) :=
  ta_vc tbTa_ok n by_ high (by
    simp only [true_and, and_true]
    refine br_intro (fun _ => trivial) (fun h1 => br_intro (fun _ => trivial) (fun h2 => br_intro (fun _ => trivial) (fun h3 => br_intro (fun _ => trivial) (fun h4 => ?_))))
    have h1 := of_decide_eq_false h1
    have h2 := of_decide_eq_false h2
    have h3 := of_decide_eq_false h3
    have h4 := of_decide_eq_false h4
    intro s0 hs0 S0
    refine ⟨⟨(0, 1, s0, S0), ⟨hs0.ok, rfl, Nat.zero_le _, (show (0 : Int) ≤ 1 ∧ (1 : Int) < 1000003 by decide), by rw [hs0.is]; rfl⟩, ⟨rfl, rfl⟩, LeH.refl _⟩, ?_⟩
    rintro ⟨i, k, s, S⟩ ⟨ok, e0, hi, hk, ids⟩
    simp only at hi hk ids e0 ⊢
    have hlen : s.L.length = i := by
      have := congrArg List.length ids
      simpa using this
    refine br_intro (fun hlt => ?_) (fun hge => ?_)
    · have hlt := of_decide_eq_true hlt
      have tm : ∀ x : Int, 0 ≤ x → 0 ≤ x.tmod 1000003 ∧ x.tmod 1000003 < 1000003 := fun x hx => by
        rw [Int.tmod_eq_emod_of_nonneg hx]; omega
      have t1 := tm _ (u64_nn by_)
      generalize (IntKind.u64.wrap by_).tmod 1000003 = u at t1 ⊢
      rw [w64 (x := u) (by omega), w64 (x := k + u) (by omega)]
      have t2 := tm (k + u) (by omega)
      generalize (k + u).tmod 1000003 = k' at t2 ⊢
      have t3 : (0 : Int) ≤ ((i : Int)).tmod 9 ∧ ((i : Int)).tmod 9 < 9 := by
        rw [Int.tmod_eq_emod_of_nonneg (by omega)]; omega
      generalize ((i : Int)).tmod 9 = c at t3 ⊢
      rw [w64 (x := 1 + k') (by omega), w64 (x := k' + high) (by omega), w64 (x := 1 + c) (by omega)]
      refine ⟨by decide, by decide, by decide, s, S, by rw [e0], e0.symm, fun s' code ha S' => ?_⟩
      have hq : okQ ⟨1 + k', 1, if k' + high < 1048576 then k' + high else 1048576, 1 + c⟩ = true := by
        show okR (1 + k') 1 (if k' + high < 1048576 then k' + high else 1048576) (1 + c) = true
        rw [okR_iff]
        split <;> omega
      have hni : (i : Int) ∉ s.L.map (·.1) := by
        rw [ids]
        intro hm
        obtain ⟨j, hj, e⟩ := List.mem_map.1 hm
        have := List.mem_range.1 hj
        omega
      have his := ha.is
      unfold addL at his
      rw [if_neg (by rw [hq]; decide), if_neg hni, if_neg (by rw [hlen]; omega)] at his
      obtain ⟨e1, e2⟩ := Prod.mk.inj his
      subst e2
      refine br_intro (fun h => absurd h (by decide)) (fun _ => ⟨(i + 1, k', s', S'), ⟨ha.ok, ha.n.trans e0, by omega, t2, ?_⟩, by simp only; omega, ⟨by rw [w64 (by omega)]; rfl, rfl⟩, LeH.refl _⟩)
      rw [e1, List.map_append, ids, List.range_succ, List.map_append]
      rfl
    · have hge := of_decide_eq_false hge
      have hiN : i = n.toNat := by omega
      refine ⟨s, S, by rw [e0], e0.symm, by omega, br_intro (fun h => ?_) (fun _ => ⟨⟨(0, s, S), ⟨ok, e0, by omega, by rw [hlen, hiN]; rfl, fun j _ hj => ?_⟩, rfl, LeH.refl _⟩, ?_⟩)⟩
      · have h := of_decide_eq_true h
        have this : s.t.ht ≤ 2 + 2 * (lgN s.t.sz : Int) := avl_low ok.wf ok.avl
        rw [ok.sz, hlen, hiN] at this
        omega
      · rw [ids]
        exact List.mem_map.2 ⟨j, List.mem_range.2 (by omega), rfl⟩
      rintro ⟨j, t, T⟩ ⟨ok, e1, hj, hl, hids⟩
      simp only at e1 hj hl hids ⊢
      refine br_intro (fun hlt => ?_) (fun hge => ?_)
      · have hlt := of_decide_eq_true hlt
        refine ⟨t, T, by rw [e1], e1.symm, fun s' b hd S' => ⟨(j + 1, s', S'), ⟨hd.ok, hd.n.trans e1, by omega, ?_, fun m h5 h6 => ?_⟩, by simp only; omega, by rw [w64 (by omega)]; simp only [AV.den]; congr 1, LeH.refl _⟩⟩
        · have e5 := (Prod.mk.inj hd.is).1
          have := filt_len ok.ids (hids (2 * j) (Nat.le_refl _) (by omega))
          have hl' : t.L.length = n.toNat - j := hl
          have this' : (t.L.filter fun x => !(x.1 == ((2 * j : Nat) : Int))).length + 1 = t.L.length := this
          rw [e5]
          show (t.L.filter fun x => !(x.1 == ((2 * j : Nat) : Int))).length = n.toNat - (j + 1)
          omega
        · have e5 := (Prod.mk.inj hd.is).1
          rw [e5]
          obtain ⟨x, hx, ex⟩ := List.mem_map.1 (hids m (by omega) h6)
          refine List.mem_map.2 ⟨x, List.mem_filter.2 ⟨hx, ?_⟩, ex⟩
          have : x.1 ≠ ((2 * j : Nat) : Int) := by omega
          simpa using this
      · have hge := of_decide_eq_false hge
        have hlt2 : t.L.length = n.toNat / 2 := by omega
        have e2 : n.tdiv 2 = ((n.toNat / 2 : Nat) : Int) := by rw [Int.tdiv_eq_ediv_of_nonneg (by omega)]; omega
        rw [e2, w64 (by omega)]
        refine ⟨t, T, by rw [e1], e1.symm, by decide, by omega, br_intro (fun _ => ?_) (fun h => ?_)⟩
        · refine ⟨t, T, by rw [e1], e1.symm, by decide, br_intro (fun _ => trivial) (fun h => absurd h (by rw [hlt2]; simp))⟩
        · have h := of_decide_eq_false h
          have this : t.t.ht ≤ 2 + 2 * (lgN t.t.sz : Int) := avl_low ok.wf ok.avl
          rw [ok.sz, hlt2] at this
          simp only [Int.toNat_natCast] at h
          omega)

end Go.Proofs.Ytjnehpljhnlbfaa

