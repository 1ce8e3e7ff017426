import Derived.Test.YtjnehpljhnlbfaaE2
namespace Go.Eng
open Go Go.Sp Go.Op Go.Proofs.Ytjnehpljhnlbfaa
def stpR (s : SS) (z : AV) (H' : HH) : Prop := ∃ (s' : SS) (l' : List (Int × RC)) (a' : Option Addr) (m' c' : Nat) (S' S'' : List Nat), rel s' l' ∧ s'.n = s.n ∧ l'.length ≤ c' ∧ z.den = (AV.tup [.agg [.os 0 a' m' 0 0 5 l'.length c'], .v (.bool true)]).den ∧ LeH H' [packB setC s.n s' S', itB m' l' S'' false]
def stepH : Handler := fun _ args H K =>
  match args with
  | [.ptr i n 0, .agg [.os j a m 0 0 5 len cap], .agg [.v (.int .i64 _), .v (.int .i64 _), .v (.int .i64 _), .v (.int .i64 _), .v (.int .i64 _), .v (.int .i64 _), .v (.int .i64 _), .v (.int .i64 _), .v (.int .i64 _), .v (.int .i64 _), .v (.int .i64 _)]] =>
    ∃ (s : SS) (S : List Nat) (l : List (Int × RC)) (Sl : List Nat) (wr : Option (Nat × TypeId)) (own : Bool), nth H i = some (setB s S) ∧ n = s.n ∧ nth H j = some ⟨m, .dl (Int × RC) itD 0 l Sl wr none, own⟩ ∧ len = l.length ∧ l.length ≤ cap ∧ rel s l ∧ [i, j].Nodup ∧
      ∀ (s' : SS) (l' : List (Int × RC)) (a' : Option Addr) (m' c' : Nat), rel s' l' → s'.n = n → l'.length ≤ c' → ∀ S' S'' : List Nat, K (.ret (.tup [.agg [.os j a' m' 0 0 5 l'.length c'], .v (.bool true)])) ((H.set i (packB setC n s' S')).set j (itB m' l' S'' false))
  | _ => False
end Go.Eng
namespace Go.Proofs.Ytjnehpljhnlbfaa
open Go Go.Eng Go.Sp Go.Op
set_option linter.unusedVariables false
set_option linter.unusedSimpArgs false
theorem meetL_len {L : List (Int × RC)} (h : L.length ≤ 8192) (q : RC) : (meetL L q).length ≤ 9223372036854775807 := by
  unfold meetL
  split
  · rw [sortI_len, List.length_map]
    have := List.length_filter_le (fun x : Int × RC => mtQ x.2 q) L
    omega
  · simp
theorem stabL_len {L : List (Int × RC)} (h : L.length ≤ 8192) (y x : Int) : (stabL L y x).length ≤ 9223372036854775807 := by
  unfold stabL
  split
  · exact meetL_len h _
  · simp
set_option maxHeartbeats 2000000 in
theorem stp_lc (s : SS) (S : List Nat) (a : Option Addr) (m cap : Nat) (l : List (Int × RC)) (Sl : List Nat) (c0 c1 c2 c3 c4 c5 c6 c7 c8 c9 c10 : Int) (hr : rel s l) (hcap : l.length ≤ cap) :
    LC Try.prog 28 [.ptr 0 s.n 0, .agg [.os 1 a m 0 0 5 l.length cap], .agg [.v (.int .i64 c0), .v (.int .i64 c1), .v (.int .i64 c2), .v (.int .i64 c3), .v (.int .i64 c4), .v (.int .i64 c5), .v (.int .i64 c6), .v (.int .i64 c7), .v (.int .i64 c8), .v (.int .i64 c9), .v (.int .i64 c10)]] [packB setC s.n s S, itB m l Sl false] (stpR s) :=
  stp_vc s S a m cap l Sl c0 c1 c2 c3 c4 c5 c6 c7 c8 c9 c10 (by
    have few := hr.few
    have fews := hr.ok.few
    intro n1 n2 n3
    refine ⟨rfl, br_intro (fun _ => ?_) (fun _ => br_intro (fun _ => ?_) (fun _ => br_intro (fun _ => ?_) (fun _ => br_intro (fun _ => ?_) (fun _ => ?_))))⟩
    · repeat refine ⟨rfl, ?_⟩
      refine ⟨l, Sl, none, false, rfl, rfl, by omega, hcap, fun code hd n10 => ?_, fun l' a' n10 n11 S' hd hlc n15 => ?_⟩
      · repeat refine ⟨rfl, ?_⟩
        refine ⟨s, S, rfl, rfl, fun s' code1 ha S1 => ?_⟩
        repeat refine ⟨rfl, ?_⟩
        obtain ⟨e, hr'⟩ := hr.add ha hd
        exact ⟨s', l, a, m, cap, S1, Sl, hr', ha.n, hcap, by rw [e, beq_self_eq_true]; rfl, leAt [0, 1] (by decide) ⟨LeB.refl _, LeB.refl _, trivial⟩⟩
      · repeat refine ⟨rfl, ?_⟩
        refine ⟨s, S, rfl, rfl, fun s' code1 ha S1 => ?_⟩
        repeat refine ⟨rfl, ?_⟩
        obtain ⟨e, hr'⟩ := hr.add ha hd
        exact ⟨s', l', a', n10, n11, S1, S', hr', ha.n, hlc, by rw [e]; rfl, leAt [0, 5] (by decide) ⟨LeB.refl _, LeB.dl (fun h => by cases h) (.inl rfl), trivial⟩⟩
    · repeat refine ⟨rfl, ?_⟩
      refine ⟨l, Sl, none, false, rfl, rfl, by omega, fun l' b9 a' n11 n12 S' hd hlc n16 => ?_⟩
      repeat refine ⟨rfl, ?_⟩
      refine ⟨s, S, rfl, rfl, fun s' b20 ha S1 => ?_⟩
      repeat refine ⟨rfl, ?_⟩
      obtain ⟨e, hr'⟩ := hr.drop ha hd
      exact ⟨s', l', a', n11, n12, S1, S', hr', ha.n, hlc, by rw [e, beq_self_eq_true]; rfl, leAt [0, 5] (by decide) ⟨LeB.refl _, LeB.dl (fun h => by cases h) (.inl rfl), trivial⟩⟩
    · repeat refine ⟨rfl, ?_⟩
      refine ⟨l, Sl, none, false, rfl, rfl, by omega, fun hri n9 => ?_, fun l' g a' n11 n12 S' b' n15 n16 R' hri hd hlc n21 => ?_⟩
      · repeat refine ⟨rfl, ?_⟩
        refine ⟨s, S, rfl, rfl, fun s' g code b n16 n17 Sg ha S1 => ?_⟩
        obtain ⟨e1, e2, hr'⟩ := hr.wrong hri ha
        subst e1 e2
        refine ⟨rfl, [], [], Sg, [], true, true, none, none, rfl, rfl, by decide, rfl, rfl, by simp, by simp, rfl, br_intro (fun _ => ?_) (fun h => absurd rfl (of_decide_eq_false h))⟩
        repeat refine ⟨rfl, ?_⟩
        exact ⟨s', l, a, m, cap, S1, Sl, hr', ha.n, hcap, rfl, leAt [0, 1] (by decide) ⟨LeB.refl _, LeB.refl _, trivial⟩⟩
      · repeat refine ⟨rfl, ?_⟩
        refine ⟨s, S, rfl, rfl, fun s' g1 code b n28 n29 Sg ha S1 => ?_⟩
        obtain ⟨e1, e2, hr'⟩ := hr.move hri ha hd
        subst e1 e2
        have hgl : g1.length ≤ 9223372036854775807 := by
          rw [hd.gs, List.length_map]
          have := List.length_filter_le (fun x : Int × RC => !rrOkQ c8 c9 c10 x.2) l
          omega
        refine ⟨rfl, g1, g1, Sg, R', true, true, none, none, rfl, rfl, by decide, rfl, rfl, hgl, hgl, rfl, br_intro (fun _ => ?_) (fun h => absurd rfl (of_decide_eq_false h))⟩
        repeat refine ⟨rfl, ?_⟩
        exact ⟨s', l', a', n11, n12, S1, S', hr', ha.n, hlc, rfl, leAt [0, 5] (by decide) ⟨LeB.refl _, LeB.dl (fun h => by cases h) (.inl rfl), trivial⟩⟩
    · repeat refine ⟨rfl, ?_⟩
      refine ⟨s, S, true, rfl, rfl, fun l1 a1 n9 n10 S' hm => ?_⟩
      repeat refine ⟨rfl, ?_⟩
      refine ⟨l, Sl, none, false, rfl, rfl, by omega, fun m1 a' n19 n20 S1 hd => ?_⟩
      repeat refine ⟨rfl, ?_⟩
      have e := hr.meet hm hd
      subst e
      have hll : l1.length ≤ 9223372036854775807 := by rw [hm.is]; exact meetL_len fews _
      refine ⟨l1, l1, S', S1, true, true, none, none, rfl, rfl, by decide, rfl, rfl, hll, hll, ?_⟩
      repeat refine ⟨rfl, ?_⟩
      exact ⟨s, l, a, m, cap, S, Sl, hr, rfl, hcap, by rw [decide_eq_true rfl]; rfl, leAt [0, 1] (by decide) ⟨LeB.refl _, LeB.refl _, trivial⟩⟩
    · repeat refine ⟨rfl, ?_⟩
      refine ⟨s, S, rfl, rfl, fun q hq n8 => ?_, fun hno n7 => ?_⟩
      · repeat refine ⟨rfl, ?_⟩
        refine ⟨l, Sl, none, false, rfl, rfl, by omega, fun q1 b14 hg hz n17 => ?_⟩
        rw [← hr.get, hq] at hg
        cases b14 with
        | false => cases hg
        | true =>
          cases hg
          repeat refine ⟨rfl, ?_⟩
          refine ⟨s, S, rfl, rfl, fun l2 a4 n22 n23 S' hm => ?_⟩
          repeat refine ⟨rfl, ?_⟩
          refine ⟨l, Sl, none, false, rfl, rfl, by omega, fun m1 a' n32 n33 S1 hd => ?_⟩
          repeat refine ⟨rfl, ?_⟩
          have e := hr.stab hm hd
          subst e
          have hll : l2.length ≤ 9223372036854775807 := by rw [hm.is]; exact stabL_len fews _ _
          refine ⟨l2, l2, S', S1, true, true, none, none, rfl, rfl, by decide, rfl, rfl, hll, hll, ?_⟩
          repeat refine ⟨rfl, ?_⟩
          refine br_intro (fun _ => ?_) (fun h => absurd rfl (of_decide_eq_false h))
          repeat refine ⟨rfl, ?_⟩
          refine br_intro (fun _ => ?_) (fun h => by simp at h)
          repeat refine ⟨rfl, ?_⟩
          exact ⟨s, l, a, m, cap, S, Sl, hr, rfl, hcap, rfl, leAt [0, 1] (by decide) ⟨LeB.refl _, LeB.refl _, trivial⟩⟩
      · repeat refine ⟨rfl, ?_⟩
        refine ⟨l, Sl, none, false, rfl, rfl, by omega, fun q1 b13 hg hz n16 => ?_⟩
        rw [← hr.get, hno] at hg
        cases b13 with
        | true => cases hg
        | false =>
          have hz := hz rfl
          subst hz
          repeat refine ⟨rfl, ?_⟩
          refine ⟨s, S, rfl, rfl, fun l2 a4 n22 n23 S' hm => ?_⟩
          repeat refine ⟨rfl, ?_⟩
          refine ⟨l, Sl, none, false, rfl, rfl, by omega, fun m1 a' n32 n33 S1 hd => ?_⟩
          repeat refine ⟨rfl, ?_⟩
          have e := hr.stab hm hd
          subst e
          have hll : l2.length ≤ 9223372036854775807 := by rw [hm.is]; exact stabL_len fews _ _
          refine ⟨l2, l2, S', S1, true, true, none, none, rfl, rfl, by decide, rfl, rfl, hll, hll, ?_⟩
          repeat refine ⟨rfl, ?_⟩
          refine br_intro (fun _ => ?_) (fun h => absurd rfl (of_decide_eq_false h))
          repeat refine ⟨rfl, ?_⟩
          exact ⟨s, l, a, m, cap, S, Sl, hr, rfl, hcap, rfl, leAt [0, 1] (by decide) ⟨LeB.refl _, LeB.refl _, trivial⟩⟩)
theorem stepH_ok : HOk Try.prog 28 stepH := by
  refine ⟨enters_of (c := body Try.f28) Try.func28 rfl (by kernel_rfl), fun rs _ args H K w hw hk => ?_⟩
  unfold stepH at hk
  split at hk
  · rename_i i n j a m len cap c0 c1 c2 c3 c4 c5 c6 c7 c8 c9 c10
    obtain ⟨s, S, l, Sl, wr, own, h1, rfl, h2, rfl, hcap, hr, hnd, hk⟩ := hk
    have hp : pickAll H [i, j] = some [setB s S, ⟨m, .dl (Int × RC) itD 0 l Sl wr none, own⟩] := by simp only [pickAll, h1, h2]
    have hlc : LC Try.prog 28 [.ptr i s.n 0, .agg [.os j a m 0 0 5 l.length cap], .agg [.v (.int .i64 c0), .v (.int .i64 c1), .v (.int .i64 c2), .v (.int .i64 c3), .v (.int .i64 c4), .v (.int .i64 c5), .v (.int .i64 c6), .v (.int .i64 c7), .v (.int .i64 c8), .v (.int .i64 c9), .v (.int .i64 c10)]] [setB s S, ⟨m, .dl (Int × RC) itD 0 l Sl wr none, own⟩] (stpR s) :=
      LC.pre (stp_lc s S a m cap l Sl c0 c1 c2 c3 c4 c5 c6 c7 c8 c9 c10 hr hcap) (LeH.of_bs ⟨LeB.refl _, LeB.dl (fun h => by cases h) (.inl rfl), trivial⟩) rfl
    refine (hlc.calls w (hw.pick hp hnd)).mono fun e w' hq => ?_
    obtain ⟨z, H', rfl, hz, hx⟩ := hq
    obtain ⟨s', l', a', m', c', S', S'', e1, e2, e3, e4, e5⟩ := hz
    refine ⟨.tup [.agg [.os j a' m' 0 0 5 l'.length c'], .v (.bool true)], _, by rw [e4]; rfl, hk s' l' a' m' c' e1 e2 e3 S' S'', ?_⟩
    have := Ext.frame (Hpost := [packB setC s.n s' S', itB m' l' S'' false]) (Hnew := []) hw hp hnd hx (by rw [List.append_nil]; exact e5) rfl
    rw [List.append_nil] at this
    exact this
  · exact hk.elim
end Go.Proofs.Ytjnehpljhnlbfaa
