/- Span: what a set tells does not hang on the order: proved. -/
import Derived.Test.YtjnehpljhnlbfaaR7
namespace Go.Eng
open Go Go.Sp Go.Op Go.Proofs.Ytjnehpljhnlbfaa

theorem u64_in {x : Int} (h0 : 0 ≤ x) (h1 : x ≤ 18446744073709551615) : IntKind.u64.wrap x = x := by
  rw [IntKind.wrap_u64]
  omega
theorem u64_nn (x : Int) : 0 ≤ IntKind.u64.wrap x := by
  rw [IntKind.wrap_u64]
  omega
theorem tmod_nat {a b : Nat} : ((a : Int)).tmod (b : Int) = ((a % b : Nat) : Int) := by
  rw [Int.tmod_eq_emod_of_nonneg (by omega)]
  rfl

end Go.Eng
namespace Go.Proofs.Ytjnehpljhnlbfaa
open Go Go.Eng Go.Sp Go.Op
set_option linter.unusedVariables false
set_option linter.unusedSimpArgs false

set_option maxHeartbeats 1000000 in
theorem order_law (a : Option Addr) (n o len cap : Nat) (g0 g1 g2 g3 : Nat → Int) (S : List Nat) (k y x t l b r : Int) (hlen : len ≤ 9223372036854775807) :
    LC Try.prog 6 [.os 0 a n o 0 4 len cap, .v (.int .i64 k), .agg [.v (.int .i64 y), .v (.int .i64 x)], .agg [.v (.int .i64 t), .v (.int .i64 l), .v (.int .i64 b), .v (.int .i64 r)]] [rxB n o len g0 g1 g2 g3 S false] (fun z _ => z = .v (.bool true)) :=
  ords_vc a n o len cap g0 g1 g2 g3 S k y x t l b r (by
    intro n1 n2
    refine ⟨g0, g1, g2, g3, S, false, rfl, hlen, fun s hs S' s1 hs1 S2 => br_intro (fun _ => rfl) (fun h3 => ⟨⟨(0, s1, S2), ⟨Nat.zero_le _, ⟨hs1.ok, rfl, hs1.is⟩⟩, ⟨rfl, rfl, rfl, rfl, rfl, rfl, rfl, rfl, rfl, trivial⟩, LeH.refl _⟩, ?_⟩)⟩
    have h3 := of_decide_eq_false h3
    have hl : len ≤ 200 := by omega
    rintro ⟨i, u, U⟩ ⟨hi, hu⟩
    dsimp only at hi hu ⊢
    have huL : u.L.length ≤ 2 * i := by rw [hu.is]; exact ordL_len ..
    have e7 : IntKind.i64.wrap ((i : Int) * 7) = ((i * 7 : Nat) : Int) := by rw [w64 (by omega)]; omega
    have hk : (IntKind.u64.wrap k).tmod (len : Int) = ((kap k len : Nat) : Int) := by
      have := u64_nn k
      rw [← Int.toNat_of_nonneg this, tmod_nat]
      rfl
    refine br_intro (fun hlt => ?_) (fun hge => ?_)
    · have hlt := of_decide_eq_true hlt
      have hlt : i < len := by omega
      have hn : 0 < len := by omega
      have hkap : kap k len < len := Nat.mod_lt _ hn
      have e1000 : IntKind.i64.wrap (1000 + (i : Int)) = 1000 + (i : Int) := w64 (by omega)
      have hw : IntKind.i64.wrap ((i : Int) + 1) = ((i + 1 : Nat) : Int) := by rw [w64 (by omega)]; rfl
      have eJ : IntKind.i64.wrap ((IntKind.u64.wrap (IntKind.u64.wrap (i : Int) + (IntKind.u64.wrap k).tmod (IntKind.u64.wrap (len : Int)))).tmod (IntKind.u64.wrap (len : Int))) = (((i + kap k len) % len : Nat) : Int) := by
        rw [u64_in (x := (len : Int)) (by omega) (by omega), u64_in (x := (i : Int)) (by omega) (by omega), hk, u64_in (by omega) (by omega)]
        have : (i : Int) + ((kap k len : Nat) : Int) = ((i + kap k len : Nat) : Int) := rfl
        rw [this, tmod_nat]
        have := Nat.mod_lt (i + kap k len) hn
        exact w64 (by omega)
      have m1 := Nat.mod_lt (i * 7) hn
      have m2 := Nat.mod_lt (i + kap k len) hn
      have t1 : 0 + (((i * 7 % len : Nat) : Int)).toNat = i * 7 % len := by omega
      have t2 : 0 + ((((i + kap k len) % len : Nat) : Int)).toNat = (i + kap k len) % len := by omega
      rw [e7, tmod_nat, eJ, e1000, hw, t1, t2]
      refine ⟨by omega, by omega, rfl, rfl, m1, u, U, by rw [hu.hn], hu.hn.symm, fun s' code ha S3 => ⟨by rw [u64_in (by omega) (by omega)]; omega, by rw [u64_in (by omega) (by omega)]; omega, by omega, rfl, rfl, m2, s', S3, by rw [ha.n, hu.hn], by rw [ha.n, hu.hn], fun s2 code2 hb S4 => ?_⟩⟩
      have i1 : s'.L = ordL (rcs g0 g1 g2 g3) len (kap k len) i ++ oneR (1000 + (i : Int)) (rcs g0 g1 g2 g3 (i * 7 % len)) := by
        have := (Prod.mk.inj ha.is).1
        rw [this, ← hu.is]
        exact add_oneR (by rw [hu.is]; exact ordL_new1 hn hl) (by omega)
      have i2 : s2.L = ordL (rcs g0 g1 g2 g3) len (kap k len) (i + 1) := by
        have := (Prod.mk.inj hb.is).1
        rw [this, i1]
        have hlen2 : (ordL (rcs g0 g1 g2 g3) len (kap k len) i ++ oneR (1000 + (i : Int)) (rcs g0 g1 g2 g3 (i * 7 % len))).length < 8192 := by
          rw [List.length_append]
          have h5 := ordL_len (rcs g0 g1 g2 g3) len (kap k len) i
          have h6 := oneR_len (1000 + (i : Int)) (rcs g0 g1 g2 g3 (i * 7 % len))
          omega
        exact add_oneR (ordL_new2 hn hl hlt) hlen2
      exact ⟨(i + 1, s2, S4), ⟨hlt, ⟨hb.ok, by rw [hb.n, ha.n, hu.hn], i2⟩⟩, by dsimp only; omega, ⟨rfl, rfl, rfl, rfl, rfl, rfl, rfl, rfl, rfl, trivial⟩, LeH.refl _⟩
    · have hge := of_decide_eq_false hge
      obtain rfl : i = len := by omega
      have hL : s.L = ofR (rcs g0 g1 g2 g3) i := by rw [hs.is, ofL_eq _ (by omega)]
      refine ⟨⟨(0, u, U), ⟨Nat.zero_le _, ⟨hu.ok, hu.hn, ?_⟩⟩, ⟨rfl, rfl, rfl, rfl, rfl, rfl, rfl, trivial⟩, LeH.refl _⟩, ?_⟩
      · dsimp only
        rw [hu.is, List.filter_eq_self.2]
        intro z hz
        obtain ⟨m, h1, h2⟩ := ordL_mem hz
        rw [Bool.or_eq_true, decide_eq_true_eq, decide_eq_true_eq]
        omega
      rintro ⟨j, v, V⟩ ⟨hj, hv⟩
      dsimp only at hj hv ⊢
      refine br_intro (fun hlt => ?_) (fun hge => ?_)
      · have hlt := of_decide_eq_true hlt
        have hw : IntKind.i64.wrap ((j : Int) + 1) = ((j + 1 : Nat) : Int) := by rw [w64 (by omega)]; rfl
        have e1000 : IntKind.i64.wrap (1000 + (j : Int)) = 1000 + (j : Int) := w64 (by omega)
        rw [hw, e1000]
        refine ⟨v, V, by rw [hv.hn], hv.hn.symm, fun s' b22 hd S3 => ⟨(j + 1, s', S3), ⟨by dsimp only; omega, ⟨hd.ok, hd.n.trans hv.hn, ?_⟩⟩, by dsimp only; omega, ⟨rfl, rfl, rfl, rfl, rfl, rfl, rfl, trivial⟩, LeH.refl _⟩⟩
        have e5 := (Prod.mk.inj hd.is).1
        rw [e5]
        show v.L.filter _ = _
        rw [hv.is, List.filter_filter]
        apply List.filter_congr
        intro z _
        rw [Bool.eq_iff_iff]
        simp only [Bool.and_eq_true, Bool.or_eq_true, decide_eq_true_eq, Bool.not_eq_true', beq_eq_false_iff_ne, ne_eq]
        omega
      · have hge := of_decide_eq_false hge
        obtain rfl : j = i := by omega
        have hP : s.L.Perm v.L := by
          rw [hL, hv.is]
          rcases Nat.eq_zero_or_pos j with h0 | h0
          · subst h0
            exact List.Perm.refl _
          · have e : ((ordL (rcs g0 g1 g2 g3) j (kap k j) j).filter fun x => decide (x.1 < 1000) || decide (1000 + (j : Int) ≤ x.1)) = (ordL (rcs g0 g1 g2 g3) j (kap k j) j).filter lowB := by
              apply List.filter_congr
              intro z hz
              obtain ⟨m, h1, h2⟩ := ordL_mem hz
              have := Nat.mod_lt (m + kap k j) h0
              unfold lowB
              rw [Bool.eq_iff_iff]
              simp only [Bool.or_eq_true, decide_eq_true_eq]
              omega
            rw [e, ordL_low h0 hl]
            exact (rotL_perm _ h0).symm
        have hll := hP.length_eq
        have h8 : s.L.length ≤ 9223372036854775807 := by have := hs.ok.few; omega
        have lS : ∀ L : List (Int × RC), L.length ≤ 8192 → ∀ q, (meetL L q).length ≤ 9223372036854775807 := fun L hL q => by
          unfold meetL
          split
          · rw [sortI_len, List.length_map]
            have := List.length_filter_le (fun x : Int × RC => mtQ x.2 q) L
            omega
          · simp
        have lT : ∀ L : List (Int × RC), L.length ≤ 8192 → (stabL L y x).length ≤ 9223372036854775807 := fun L hL => by
          unfold stabL
          split
          · exact lS L hL _
          · simp
        refine ⟨s, S', rfl, rfl, v, V, by rw [hv.hn], hv.hn.symm, br_intro (fun _ => ?_) (fun h => by rw [hll] at h; simp at h)⟩
        refine ⟨rfl, rfl, s, S', rfl, rfl, fun l1 a1 n27 n28 S3 hm1 => ⟨rfl, v, V, by rw [hv.hn], hv.hn.symm, fun l2 a2 n35 n36 S4 hm2 => ⟨rfl, l1, l2, S3, S4, true, true, none, none, rfl, rfl, by decide, rfl, rfl, ?_, ?_, rfl, rfl, br_intro (fun _ => ?_) (fun h => ?_)⟩⟩⟩
        · rw [hm1.is]; exact lT _ hs.ok.few
        · rw [hm2.is]; exact lT _ hv.ok.few
        · refine ⟨rfl, rfl, s, S', true, rfl, rfl, fun l3 a3 n52 n53 S5 hm3 => ⟨rfl, rfl, rfl, v, V, true, by rw [hv.hn], hv.hn.symm, fun l4 a4 n61 n62 S6 hm4 => ⟨rfl, rfl, rfl, l3, l4, S5, S6, true, true, none, none, rfl, rfl, by decide, rfl, rfl, ?_, ?_, rfl, rfl, rfl, rfl, br_intro (fun _ => rfl) (fun h => ?_)⟩⟩⟩
          · rw [hm3.is]; exact lS _ hs.ok.few _
          · rw [hm4.is]; exact lS _ hv.ok.few _
          · exact absurd (by rw [hm3.is, hm4.is, meetL_perm hP]) (of_decide_eq_false h)
        · exact absurd (by rw [hm1.is, hm2.is, stabL_perm hP]) (of_decide_eq_false h))

end Go.Proofs.Ytjnehpljhnlbfaa

