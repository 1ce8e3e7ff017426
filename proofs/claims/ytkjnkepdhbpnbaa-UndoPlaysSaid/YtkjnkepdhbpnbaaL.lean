/- Undo: Push. -/
import Derived.Test.YtkjnkepdhbpnbaaK
namespace Go.Proofs.Ytkjnkepdhbpnbaa
open Go Go.Eng Go.Sp
set_option linter.unusedVariables false
set_option linter.unusedSimpArgs false

theorem gone_eq {s : HS} (ok : s.ok) (k : Nat) (hk : k = s.at_ + 1) : (if IntKind.i64.wrap ((k : Int) - s.most) > 0 then IntKind.i64.wrap ((k : Int) - s.most) else 0) = (s.gone : Int) := by
  have e1 := ok.m0
  have e2 := ok.m1
  have e3 := ok.le
  have e4 := ok.lm
  have e5 : s.gone = s.at_ + 1 - s.most.toNat := rfl
  rw [w64 (by omega)]
  split <;> omega

theorem wrap_ok {s : HS} (ok : s.ok) : ∀ a b, (a, b) ∈ s.es → IntKind.i64.wrap (a.2 - (s.gone : Int)) = a.2 - (s.gone : Int) := fun a b h => by
  have e1 := ok.m0
  have e2 := ok.m1
  have e3 := ok.le
  have e4 := ok.lm
  have e5 : s.gone = s.at_ + 1 - s.most.toNat := rfl
  have := ok.mark a b h
  exact w64 (by omega)

theorem pushH_ok : HOk Try.prog 13 pushH := hist_ok (enters_of (c := body Try.f13) Try.func13 rfl (by kernel_rfl)) fun rs args H K hk => by
  unfold pushH at hk
  split at hk
  · rename_i id n x
    obtain ⟨s, S, rfl, hb, ok, hk⟩ := hk
    have e1 := ok.m0
    have e2 := ok.m1
    have e3 := ok.le
    have e4 := ok.lm
    have e5 : s.gone = s.at_ + 1 - s.most.toNat := rfl
    refine ⟨id, s, S, [.ptr 0 s.hn 0, .v (.int .i64 x)], hb, rfl, fun H0 hc => ?_⟩
    rcases hc with ⟨ha, hl, mn, rfl⟩ | ⟨mn, an, r, cap, N, g, h1, h2, h3, rfl⟩
    · obtain ⟨hn0, most, at_, len, g0, es, clock⟩ := s
      cases (show at_ = 0 from ha)
      refine push0_vc hn0 mn most es clock x ?_
      have hg : (if IntKind.i64.wrap (1 - most) > 0 then IntKind.i64.wrap (1 - most) else 0) = ((HS.gone ⟨hn0, most, 0, len, g0, es, clock⟩ : Nat) : Int) := gone_eq ok 1 rfl
      generalize hge : HS.gone ⟨hn0, most, 0, len, g0, es, clock⟩ = gone at *
      simp only [true_and, and_true, hg, Int.toNat_natCast]
      refine ⟨by decide, by decide, fun n1 => ⟨by decide, fun n2 n3 hn n5 => keep_plain ok.keys (by rw [← hge]; exact wrap_ok ok) ?_ ?_ ?_ ?_⟩⟩
      · rw [kf_nil]; exact LeH.refl _
      · intro x1 m e; rw [e]; exact LeH.refl _
      · intro x1 a m e; rw [e]; exact LeH.refl _
      · intro x1 e
        rw [e]
        have hp : HS.push ⟨hn0, most, 0, len, g0, es, clock⟩ x = ⟨hn0, most, 1 - gone, 1 - gone, fun k => if gone + k < 0 then g0 (gone + k) else x, kfA gone 0 es, clock⟩ := by
          rw [← hge]; rfl
        have hlt : gone = 0 ∨ gone = 1 := by
          have : gone = 0 + 1 - most.toNat := by rw [← hge]; rfl
          omega
        refine ⟨⟨by omega, by omega⟩, hn, _, histR ⟨hn0, most, 1 - gone, 1 - gone, fun k => if gone + k < 0 then g0 (gone + k) else x, kfA gone 0 es, clock⟩ mn n2 (offB n3 gone 1 0) (n3 - gone) n3 (fun (i : Nat) => if i < 0 then 0 else if i < 1 then match asI IntKind.i64 ((nth [AV.v (Value.int IntKind.i64 x)] ((0 + (i - 0)) * 1 + nat_lit 0)).getD (AV.v undef)) with | some x => x | none => 0 else 0), [], .v (.int .i64 0), leAt [0, 1, 3] (by decide) ⟨⟨fun _ h => h, fun h => h, fun w h => h⟩, LeB.refl _, LeB.refl _, trivial⟩, .inr ⟨mn, n2, _, _, n3, _, ?_, ?_, ?_, rfl⟩, rfl, rfl, fun S' => by rw [List.append_nil, ← hp]; exact hk S'⟩
        · show 1 - gone ≤ n3 - gone; omega
        · show offB n3 gone 1 0 + (1 - gone) ≤ n3
          unfold offB offN
          repeat' split
          all_goals omega
        · intro k hk
          replace hk : k < 1 - gone := hk
          obtain rfl : gone = 0 := by omega
          obtain rfl : k = 0 := by omega
          rfl
    · refine push1_vc s.hn mn an s.most s.at_ s.es s.clock x r s.len cap N g ?_
      have hg := gone_eq ok (s.at_ + 1) rfl
      simp only [true_and, and_true, Int.toNat_natCast, Nat.sub_zero, hg, br_iff (c := (s.at_ + 1).ble s.at_), nlT, nlF]
      refine ⟨⟨by omega, by omega⟩, by omega, fun n1 => ⟨by omega, fun h => absurd h (by omega), fun h => ⟨⟨by omega, by omega⟩, fun n2 n3 hn n5 => keep_plain ok.keys (wrap_ok ok) ?_ ?_ ?_ ?_⟩⟩⟩
      · rw [kf_nil]; exact LeH.refl _
      · intro x1 m e; rw [e]; exact LeH.refl _
      · intro x1 a m e; rw [e]; exact LeH.refl _
      · intro x1 e
        rw [e]
        refine ⟨⟨by omega, by omega⟩, hn, s.push x, histR (s.push x) mn n2 (offB n3 s.gone (s.at_ + 1) 0) (n3 - s.gone) n3 (fun (i : Nat) => if i < s.at_ then g (r + i) else if i < s.at_ + 1 then match asI IntKind.i64 ((nth [AV.v (Value.int IntKind.i64 x)] ((0 + (i - s.at_)) * 1 + nat_lit 0)).getD (AV.v undef)) with | some x => x | none => 0 else 0), [], .v (.int .i64 0), leAt [0, 1, 4] (by decide) ⟨⟨fun _ h => h, fun h => h, fun w h => h⟩, LeB.refl _, LeB.refl _, trivial⟩, .inr ⟨mn, n2, _, _, n3, _, ?_, ?_, ?_, rfl⟩, rfl, rfl, fun S' => by rw [List.append_nil]; exact hk S'⟩
        · show s.at_ + 1 - s.gone ≤ n3 - s.gone; omega
        · show offB n3 s.gone (s.at_ + 1) 0 + (s.at_ + 1 - s.gone) ≤ n3
          unfold offB offN
          repeat' split
          all_goals omega
        · intro k hk
          replace hk : k < s.at_ + 1 - s.gone := hk
          have ho : offB n3 s.gone (s.at_ + 1) 0 + k = s.gone + k := by
            unfold offB
            split
            · omega
            · rw [if_pos (by omega)]; omega
          show (if offB n3 s.gone (s.at_ + 1) 0 + k < s.at_ then _ else _) = if s.gone + k < s.at_ then s.g (s.gone + k) else x
          rw [ho]
          by_cases hlt : s.gone + k < s.at_
          · rw [if_pos hlt, if_pos hlt, h3 _ (by omega)]
          · rw [if_neg hlt, if_neg hlt, if_pos (by omega)]
            have : s.gone + k - s.at_ = 0 := by omega
            rw [this]
            rfl
  · cases hk
end Go.Proofs.Ytkjnkepdhbpnbaa

