/- View: widths: what they are. -/
import Derived.Test.YthkegefjmcipmaaDoorVH
namespace Go.Proofs.YthkegefjmcipmaaDoor
open Go Go.Eng Go.Sp
set_option linter.unusedVariables false
set_option linter.unusedSimpArgs false

set_option maxHeartbeats 4000000 in
theorem wd_lc (t lf b rt : Int) (l : List Dw) (a : Option Addr) (n o cap : Nat) (S : List Nat) (most : Int) (hl : l.length ≤ 1048576) :
    LC Tryd.prog 19 [.agg [.v (.int .i64 t), .v (.int .i64 lf), .v (.int .i64 b), .v (.int .i64 rt)], .os 0 a n o 0 4 l.length cap, .v (.int .i64 most)] [rD dwD n o l S false] (fun z H' =>
      (badV t lf b rt most ≠ 0 ∧ z = .tup [.v (.slice none 0 0), .v (.int .i64 (badV t lf b rt most))]) ∨
      (badV t lf b rt most = 0 ∧ ∃ (a : Option Addr) (n c : Nat) (S' : List Nat), z.den = (AV.tup [.os 0 a n 0 0 1 (rt - lf + 1).toNat c, .v (.int .i64 0)]).den ∧ LeH H' [rD intD n 0 (wsL l most t (b - t + 1).toNat lf (rt - lf + 1).toNat) S' true])) :=
  wd_vc t lf b rt l a n o cap S most (by
    simp only [true_and, and_true, Int.toNat_natCast, Nat.zero_add, Nat.le_refl]
    intro n1
    refine br_intro (fun h => .inl (by simpa using h)) (fun h => ?_)
    have e : badV t lf b rt most = 0 := by simpa using h
    obtain ⟨g1, g2, g3, g4⟩ := badV_zero e
    obtain ⟨r1, r2, r3, r4, r5, r6⟩ := okR_b g1
    have mpos : 0 < (rt - lf + 1).toNat := by omega
    refine ⟨l, S, none, false, rfl, rfl, hl, e, fun a2 n7 n8 Sl cs Sc hc => ⟨fun w hw => .inl ?_, fun x hx => ?_, fun x hx => ?_⟩⟩
    · have l1 : ∀ b0 b1 b2 b3 : Blk, LeH [b0, b1, b2, b3] [b1, wD intD 0 [] [] 0 3, b2, b3] := fun b0 b1 b2 b3 =>
        (LeH.more (H := [b0, b1, b2, b3]) (b := wD intD 0 [] [] 0 3) rfl fun w => dl_nil intD_ok (.inr ⟨_, rfl, rfl⟩)).trans (leAt [1, 4, 2, 3] (by decide) ⟨LeB.refl _, LeB.refl _, LeB.refl _, LeB.refl _, trivial⟩)
      have t1 := (l1 _ _ _ _).to hw
      obtain ⟨c, hc1⟩ := hc.some mpos
      obtain ⟨Sr, t2⟩ := cl_open hc1 t1.hp
      exact ⟨⟨0, none, 0, 0, [], c, cs, Sr⟩, ⟨mpos, hc1, fun _ => .inl rfl, Nat.le_refl _, hc.wde, hc.len⟩, ⟨rfl, rfl⟩, t1.trans t2⟩
    · obtain ⟨x1, x2, x3, x4, x5, x6⟩ := hx
      refine br_intro (fun _ => ?_) (fun h => absurd (of_decide_eq_false h) (by omega))
      have wl := wsL_len l most t (b - t + 1).toNat lf x.i
      refine ⟨⟨by omega, by omega⟩, by rw [List.length_map, x6]; exact x1, fun n15 => ⟨by omega, x3, x4, ⟨by omega, by omega⟩, fun a' n17 n18 S' k1 k2 w hw => ?_⟩⟩
      have ex : x.cs.set x.i x.c = x.cs := by
        obtain ⟨h1, h2⟩ := List.getElem?_eq_some_iff.1 x2
        rw [← h2, List.set_getElem_self]
      rw [List.take_of_length_le (by omega), x5 _ _ x2, ← wsL_one] at hw ⊢
      obtain ⟨S2, t2⟩ := fc_close (c1 := x.c) x2 rfl hw (leAt [0, 1, 2, 3, 4, 5] (by decide) ⟨LeB.refl _, LeB.refl _, LeB.refl _, LeB.refl _, LeB.cells (by rw [x5 _ _ x2]; rfl) (fun h => h), LeB.refl _, trivial⟩)
      rw [ex] at t2
      by_cases hz : x.i + 1 < (rt - lf + 1).toNat
      · refine .inl ?_
        obtain ⟨c, hc⟩ : ∃ c, x.cs[x.i + 1]? = some c := ⟨_, List.getElem?_eq_getElem (by rw [x6]; exact hz)⟩
        obtain ⟨Sr, t3⟩ := cl_open hc t2.hp
        exact ⟨⟨x.i + 1, a', n17, n18, S', c, x.cs, Sr⟩, ⟨hz, hc, k2, k1, x5, x6⟩, by show _ - (x.i + 1) < _; omega, ⟨by rw [w64 (by omega)]; rfl, rfl⟩, t2.trans t3⟩
      · have hm : x.i + 1 = (rt - lf + 1).toNat := by omega
        refine .inr ⟨⟨0, a', n17, n18, S', x.c, x.cs, S2⟩, ⟨fun h => (by omega), by show _ ≤ n18; omega⟩, by omega, ⟨by rw [w64 (by omega)]; simp only [AV.den]; congr 1; omega, by rw [hm]⟩, ?_⟩
        rw [← hm]
        have l3 : ∀ b0 b1 b2 b3 : Blk, LeH [b0, b1, b2, b3] [b0, b1] := fun b0 b1 b2 b3 => leAt [0, 1] (by decide) ⟨LeB.refl _, LeB.refl _, trivial⟩
        exact t2.trans ((l3 _ _ _ _).to t2.hp)
    · refine br_intro (fun h => absurd (of_decide_eq_true h) (by omega)) (fun _ => ?_)
      exact .inr ⟨e, x.a, x.n, x.cap, x.S, rfl, leAt [1] (by decide) ⟨LeB.dl (fun h => h) (.inl rfl), trivial⟩⟩)

theorem wd_ok : HOk Tryd.prog 19 rwdH := HOk.of_make (enters_of (c := body Tryd.f19) Tryd.func19 rfl (by kernel_rfl)) fun rs args H K hk => by
  unfold rwdH at hk
  split at hk
  · rename_i t lf b rt i a n o k cap most
    obtain ⟨l, S, wr, w, h1, rfl, h2, hk1, hk2⟩ := hk
    refine ⟨[rD dwD n o l S false], [.agg [.v (.int .i64 t), .v (.int .i64 lf), .v (.int .i64 b), .v (.int .i64 rt)], .os 0 a n o 0 4 l.length cap, .v (.int .i64 most)], _, leAt (H := H) [i] (by simp) ?_, fun b hb => by cases List.mem_singleton.1 hb; rfl, rfl, wd_lc t lf b rt l a n o cap S most h2, fun z H' hz => ?_⟩
    · simp only [pickH, h1]
      exact ⟨LeB.dl (fun h => (by cases h)) (.inl rfl), trivial⟩
    · rcases hz with ⟨e, rfl⟩ | ⟨e, a, n, c, S', e2, e3⟩
      · exact ⟨_, [], rfl, leAt [] List.nodup_nil trivial, fun b hb => (by cases hb), by rw [List.append_nil]; exact hk1 _ rfl e⟩
      · exact ⟨.tup [.os H.length a n 0 0 1 (rt - lf + 1).toNat c, .v (.int .i64 0)], [rD intD n 0 (wsL l most t (b - t + 1).toNat lf (rt - lf + 1).toNat) S' true], by rw [e2]; rfl, e3, fun b hb => by cases List.mem_singleton.1 hb; rfl, hk2 e a n c S'⟩
  · cases hk

end Go.Proofs.YthkegefjmcipmaaDoor

