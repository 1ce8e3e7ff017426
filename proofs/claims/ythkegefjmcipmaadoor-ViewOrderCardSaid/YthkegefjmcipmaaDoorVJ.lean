/- View: the law of widths. -/
import Derived.Test.YthkegefjmcipmaaDoorVH
import Derived.Test.YthkegefjmcipmaaDoorY8
namespace Go.Eng
open Go Go.Sp Go.Proofs.YthkegefjmcipmaaDoor

def bigF (t l b r : Int) (n : Nat) : Bool := decide (areaF t l b r > 300 ∧ areaF t l b r ≤ 4096) || decide (n > 60)

def lwJ (m : Nat) : Nat → TT → HH → LI := fun b T H =>
  bif Nat.beq b 0 then .inv Nat (fun i => ((11, .v (.int .i64 (i : Int))) :: keepT [7, 9] T, H)) (fun i => i ≤ m) (fun i => m - i) else .unroll 0

end Go.Eng
namespace Go.Proofs.YthkegefjmcipmaaDoor
open Go Go.Eng Go.Sp
set_option linter.unusedVariables false
set_option linter.unusedSimpArgs false


set_option maxRecDepth 100000 in
theorem big_vc (t l b r : Int) (a : Option Addr) (n o len cap : Nat) {R : AV → Prop} (h : (∀ (n1 : Nat), n1 = n1 ∧ br (ifB (okR t l b r) (0 : Int) (2 : Int) == (0 : Int)) (br (decide (areaF t l b r > (300 : Int))) (br (decide (areaF t l b r ≤ (4096 : Int))) (R (AV.v (Value.bool true))) (R (AV.v (Value.bool (decide ((↑len : Int) > (60 : Int))))))) (R (AV.v (Value.bool (decide ((↑len : Int) > (60 : Int))))))) (R (AV.v (Value.bool (decide ((↑len : Int) > (60 : Int)))))))) : LC Tryd.prog 9 [.agg [.v (.int .i64 t), .v (.int .i64 l), .v (.int .i64 b), .v (.int .i64 r)], .os 0 a n o 0 4 len cap] [] (fun z_ _ => R z_) :=
  lc_of_exec (tbl := pt4) tab_ok pt4_ok mixed noinv 2 _ Tryd.func9 rfl Tryd.ntmps9 (by decide) (by kernel_rfl) (Nat.le_of_ble_eq_true rfl) (@Eq.mpr (execN tab pt4 noinv 2 Tryd.f9.ntmps [] none 0 (body Tryd.f9) (argsT [.agg [.v (.int .i64 t), .v (.int .i64 l), .v (.int .i64 b), .v (.int .i64 r)], .os 0 a n o 0 4 len cap] 0) [] (post Tryd.f9 tab (retK (fun z_ _ => R z_)))) _ (by kernel_rfl) h)

set_option maxRecDepth 100000 in
theorem big_lc (t l b r : Int) (a : Option Addr) (n o len cap : Nat) : LC Tryd.prog 9 [.agg [.v (.int .i64 t), .v (.int .i64 l), .v (.int .i64 b), .v (.int .i64 r)], .os 0 a n o 0 4 len cap] [] (fun z_ _ => z_ = .v (.bool (bigF t l b r len))) :=
  big_vc t l b r a n o len cap (by
    intros
    simp only [true_and, br_iff, AV.v.injEq, Value.bool.injEq, and_true, bigF, areaF]
    by_cases h : okR t l b r = true
    all_goals simp [ifB, h]
    all_goals repeat' split
    all_goals repeat' (first | refine ⟨?_, ?_⟩ | intro _)
    all_goals (first | omega | trivial | (rw [Bool.eq_iff_iff]; simp only [Bool.or_eq_true, Bool.and_eq_true, decide_eq_true_eq]; omega) | skip))

def bigH : List AV → Option AV
  | [.agg [.v (.int .i64 t), .v (.int .i64 l), .v (.int .i64 b), .v (.int .i64 r)], .os 0 a n o 0 4 len cap] => some (.v (.bool (bigF t l b r len)))
  | _ => none

theorem big_ok : POk Tryd.prog 9 bigH := POk.of_lc (enters_of (c := body Tryd.f9) Tryd.func9 rfl (by kernel_rfl)) (by
  intro args v h
  unfold bigH at h
  split at h
  · cases h; exact big_lc _ _ _ _ _ _ _ _ _
  · cases h)


def tbLw : Tbl := (9, .pure bigH) :: (10, .pure livesH) :: (19, .gen rwdH) :: (20, .gen rwdH) :: []

theorem tbLw_ok : TblOk Tryd.prog tbLw := ⟨big_ok, lives_ok, wd_ok, rwd_ok, trivial⟩


set_option maxRecDepth 100000 in
theorem lw_vc (t lf b rt : Int) (l : List Dw) (a : Option Addr) (n o cap : Nat) (S : List Nat) (most : Int) {R : AV → Prop} (h : (∀ (n1 : Nat), n1 = n1 ∧ br (decide (areaF t lf b rt > (300 : Int) ∧ areaF t lf b rt ≤ (4096 : Int)) || decide (l.length > (60 : Nat))) (R (AV.v (Value.bool true))) (n1 = n1 ∧ ∃ (l_1 : List Dw), ∃ (S_1 : List Nat), ∃ (wr : Option (Nat × TypeId)), ∃ (w : Bool), some (Blk.mk n (Cont.dl Dw dwD o l S none none) false) = some (Blk.mk n (Cont.dl Dw dwD o l_1 S_1 wr none) w) ∧ l.length = l_1.length ∧ l_1.length ≤ (1048576 : Nat) ∧ (∀ (e : Int), e = badV t lf b rt most → e ≠ (0 : Int) → n1 = n1 ∧ ∃ (l_2 : List Dw), ∃ (S_2 : List Nat), ∃ (wr : Option (Nat × TypeId)), ∃ (w : Bool), some (Blk.mk n (Cont.dl Dw dwD o l S none none) false) = some (Blk.mk n (Cont.dl Dw dwD o l_2 S_2 wr none) w) ∧ l.length = l_2.length ∧ l_2.length ≤ (1048576 : Nat) ∧ (∀ (e_1 : Int), e_1 = badV t lf b rt most → e_1 ≠ (0 : Int) → br (e != e_1) (R (AV.v (Value.bool false))) ((∃ (x : Nat), x ≤ (rt - lf + (1 : Int)).toNat ∧ ((AV.v (Value.int IntKind.i64 (0 : Int))).den = (AV.v (Value.int IntKind.i64 (↑x : Int))).den ∧ (AV.v (Value.slice none (0 : Nat) (0 : Nat))).den = (AV.v (Value.slice none (0 : Nat) (0 : Nat))).den ∧ (AV.v (Value.slice none (0 : Nat) (0 : Nat))).den = (AV.v (Value.slice none (0 : Nat) (0 : Nat))).den ∧ True) ∧ LeH [Blk.mk n (Cont.dl Dw dwD o l S none none) false, Blk.mk n1 (Cont.cells [AV.v (Value.int IntKind.i64 t), AV.v (Value.int IntKind.i64 lf), AV.v (Value.int IntKind.i64 b), AV.v (Value.int IntKind.i64 rt)] (23 : Nat)) true] [Blk.mk n (Cont.dl Dw dwD o l S none none) false, Blk.mk n1 (Cont.cells [AV.v (Value.int IntKind.i64 t), AV.v (Value.int IntKind.i64 lf), AV.v (Value.int IntKind.i64 b), AV.v (Value.int IntKind.i64 rt)] (23 : Nat)) true]) ∧ ∀ (n16 : Nat), n16 ≤ (rt - lf + (1 : Int)).toNat → R (AV.v (Value.bool true)))) ∧ (badV t lf b rt most = (0 : Int) → ∀ (a : Option Addr) (n15 n16 : Nat) (S' : List Nat), br ((0 : Int) != (↑(rt - lf + (1 : Int)).toNat : Int)) (R (AV.v (Value.bool false))) (br (e != (0 : Int)) (R (AV.v (Value.bool false))) ((∃ (x : Nat), x ≤ (rt - lf + (1 : Int)).toNat ∧ ((AV.v (Value.int IntKind.i64 (0 : Int))).den = (AV.v (Value.int IntKind.i64 (↑x : Int))).den ∧ (AV.v (Value.slice none (0 : Nat) (0 : Nat))).den = (AV.v (Value.slice none (0 : Nat) (0 : Nat))).den ∧ (AV.os (2 : Nat) a n15 (0 : Nat) (0 : Nat) (1 : Nat) (rt - lf + (1 : Int)).toNat n16).den = (AV.os (2 : Nat) a n15 (0 : Nat) (0 : Nat) (1 : Nat) (rt - lf + (1 : Int)).toNat n16).den ∧ True) ∧ LeH [Blk.mk n (Cont.dl Dw dwD o l S none none) false, Blk.mk n1 (Cont.cells [AV.v (Value.int IntKind.i64 t), AV.v (Value.int IntKind.i64 lf), AV.v (Value.int IntKind.i64 b), AV.v (Value.int IntKind.i64 rt)] (23 : Nat)) true, Blk.mk n15 (Cont.dl Int intD (0 : Nat) (wsL l_2 most t (b - t + (1 : Int)).toNat lf (rt - lf + (1 : Int)).toNat) S' none none) true] [Blk.mk n (Cont.dl Dw dwD o l S none none) false, Blk.mk n1 (Cont.cells [AV.v (Value.int IntKind.i64 t), AV.v (Value.int IntKind.i64 lf), AV.v (Value.int IntKind.i64 b), AV.v (Value.int IntKind.i64 rt)] (23 : Nat)) true, Blk.mk n15 (Cont.dl Int intD (0 : Nat) (wsL l_2 most t (b - t + (1 : Int)).toNat lf (rt - lf + (1 : Int)).toNat) S' none none) true]) ∧ ∀ (n18 : Nat), n18 ≤ (rt - lf + (1 : Int)).toNat → R (AV.v (Value.bool true)))))) ∧ (badV t lf b rt most = (0 : Int) → ∀ (a : Option Addr) (n8 n9 : Nat) (S' : List Nat), n1 = n1 ∧ ∃ (l_2 : List Dw), ∃ (S_2 : List Nat), ∃ (wr : Option (Nat × TypeId)), ∃ (w : Bool), some (Blk.mk n (Cont.dl Dw dwD o l S none none) false) = some (Blk.mk n (Cont.dl Dw dwD o l_2 S_2 wr none) w) ∧ l.length = l_2.length ∧ l_2.length ≤ (1048576 : Nat) ∧ (∀ (e : Int), e = badV t lf b rt most → e ≠ (0 : Int) → br ((↑(rt - lf + (1 : Int)).toNat : Int) != (0 : Int)) (R (AV.v (Value.bool false))) (br ((0 : Int) != e) (R (AV.v (Value.bool false))) ((∃ (x : Nat), x ≤ (rt - lf + (1 : Int)).toNat ∧ ((AV.v (Value.int IntKind.i64 (0 : Int))).den = (AV.v (Value.int IntKind.i64 (↑x : Int))).den ∧ (AV.os (2 : Nat) a n8 (0 : Nat) (0 : Nat) (1 : Nat) (rt - lf + (1 : Int)).toNat n9).den = (AV.os (2 : Nat) a n8 (0 : Nat) (0 : Nat) (1 : Nat) (rt - lf + (1 : Int)).toNat n9).den ∧ (AV.v (Value.slice none (0 : Nat) (0 : Nat))).den = (AV.v (Value.slice none (0 : Nat) (0 : Nat))).den ∧ True) ∧ LeH [Blk.mk n (Cont.dl Dw dwD o l S none none) false, Blk.mk n1 (Cont.cells [AV.v (Value.int IntKind.i64 t), AV.v (Value.int IntKind.i64 lf), AV.v (Value.int IntKind.i64 b), AV.v (Value.int IntKind.i64 rt)] (23 : Nat)) true, Blk.mk n8 (Cont.dl Int intD (0 : Nat) (wsL l_1 most t (b - t + (1 : Int)).toNat lf (rt - lf + (1 : Int)).toNat) S' none none) true] [Blk.mk n (Cont.dl Dw dwD o l S none none) false, Blk.mk n1 (Cont.cells [AV.v (Value.int IntKind.i64 t), AV.v (Value.int IntKind.i64 lf), AV.v (Value.int IntKind.i64 b), AV.v (Value.int IntKind.i64 rt)] (23 : Nat)) true, Blk.mk n8 (Cont.dl Int intD (0 : Nat) (wsL l_1 most t (b - t + (1 : Int)).toNat lf (rt - lf + (1 : Int)).toNat) S' none none) true]) ∧ ∀ (n18 : Nat), n18 ≤ (rt - lf + (1 : Int)).toNat → br (decide ((↑n18 : Int) < (↑(rt - lf + (1 : Int)).toNat : Int))) (((0 : Int) ≤ (↑n18 : Int) ∧ (↑n18 : Int) < (↑(rt - lf + (1 : Int)).toNat : Int)) ∧ n8 = n8 ∧ (0 : Nat) = (0 : Nat) ∧ (0 : Nat) + (↑n18 : Int).toNat < (wsL l_1 most t (b - t + (1 : Int)).toNat lf (rt - lf + (1 : Int)).toNat).length ∧ False) (R (AV.v (Value.bool true)))))) ∧ (badV t lf b rt most = (0 : Int) → ∀ (a_2 : Option Addr) (n17 n18 : Nat) (S'_1 : List Nat), br ((↑(rt - lf + (1 : Int)).toNat : Int) != (↑(rt - lf + (1 : Int)).toNat : Int)) (R (AV.v (Value.bool false))) ((∃ (x : Nat), x ≤ (rt - lf + (1 : Int)).toNat ∧ ((AV.v (Value.int IntKind.i64 (0 : Int))).den = (AV.v (Value.int IntKind.i64 (↑x : Int))).den ∧ (AV.os (2 : Nat) a n8 (0 : Nat) (0 : Nat) (1 : Nat) (rt - lf + (1 : Int)).toNat n9).den = (AV.os (2 : Nat) a n8 (0 : Nat) (0 : Nat) (1 : Nat) (rt - lf + (1 : Int)).toNat n9).den ∧ (AV.os (3 : Nat) a_2 n17 (0 : Nat) (0 : Nat) (1 : Nat) (rt - lf + (1 : Int)).toNat n18).den = (AV.os (3 : Nat) a_2 n17 (0 : Nat) (0 : Nat) (1 : Nat) (rt - lf + (1 : Int)).toNat n18).den ∧ True) ∧ LeH [Blk.mk n (Cont.dl Dw dwD o l S none none) false, Blk.mk n1 (Cont.cells [AV.v (Value.int IntKind.i64 t), AV.v (Value.int IntKind.i64 lf), AV.v (Value.int IntKind.i64 b), AV.v (Value.int IntKind.i64 rt)] (23 : Nat)) true, Blk.mk n8 (Cont.dl Int intD (0 : Nat) (wsL l_1 most t (b - t + (1 : Int)).toNat lf (rt - lf + (1 : Int)).toNat) S' none none) true, Blk.mk n17 (Cont.dl Int intD (0 : Nat) (wsL l_2 most t (b - t + (1 : Int)).toNat lf (rt - lf + (1 : Int)).toNat) S'_1 none none) true] [Blk.mk n (Cont.dl Dw dwD o l S none none) false, Blk.mk n1 (Cont.cells [AV.v (Value.int IntKind.i64 t), AV.v (Value.int IntKind.i64 lf), AV.v (Value.int IntKind.i64 b), AV.v (Value.int IntKind.i64 rt)] (23 : Nat)) true, Blk.mk n8 (Cont.dl Int intD (0 : Nat) (wsL l_1 most t (b - t + (1 : Int)).toNat lf (rt - lf + (1 : Int)).toNat) S' none none) true, Blk.mk n17 (Cont.dl Int intD (0 : Nat) (wsL l_2 most t (b - t + (1 : Int)).toNat lf (rt - lf + (1 : Int)).toNat) S'_1 none none) true]) ∧ ∀ (n20 : Nat), n20 ≤ (rt - lf + (1 : Int)).toNat → br (decide ((↑n20 : Int) < (↑(rt - lf + (1 : Int)).toNat : Int))) (((0 : Int) ≤ (↑n20 : Int) ∧ (↑n20 : Int) < (↑(rt - lf + (1 : Int)).toNat : Int)) ∧ n8 = n8 ∧ (0 : Nat) = (0 : Nat) ∧ (0 : Nat) + (↑n20 : Int).toNat < (wsL l_1 most t (b - t + (1 : Int)).toNat lf (rt - lf + (1 : Int)).toNat).length ∧ ((0 : Int) ≤ (↑n20 : Int) ∧ (↑n20 : Int) < (↑(rt - lf + (1 : Int)).toNat : Int)) ∧ n17 = n17 ∧ (0 : Nat) = (0 : Nat) ∧ (0 : Nat) + (↑n20 : Int).toNat < (wsL l_2 most t (b - t + (1 : Int)).toNat lf (rt - lf + (1 : Int)).toNat).length ∧ br (dAt (wsL l_1 most t (b - t + (1 : Int)).toNat lf (rt - lf + (1 : Int)).toNat) (0 : Int) ((0 : Nat) + (↑n20 : Int).toNat) != dAt (wsL l_2 most t (b - t + (1 : Int)).toNat lf (rt - lf + (1 : Int)).toNat) (0 : Int) ((0 : Nat) + (↑n20 : Int).toNat)) (R (AV.v (Value.bool false))) (∃ (x' : Nat), x' ≤ (rt - lf + (1 : Int)).toNat ∧ (rt - lf + (1 : Int)).toNat - x' < (rt - lf + (1 : Int)).toNat - n20 ∧ ((AV.v (Value.int IntKind.i64 (IntKind.i64.wrap ((↑n20 : Int) + (1 : Int))))).den = (AV.v (Value.int IntKind.i64 (↑x' : Int))).den ∧ (AV.os (2 : Nat) a n8 (0 : Nat) (0 : Nat) (1 : Nat) (rt - lf + (1 : Int)).toNat n9).den = (AV.os (2 : Nat) a n8 (0 : Nat) (0 : Nat) (1 : Nat) (rt - lf + (1 : Int)).toNat n9).den ∧ (AV.os (3 : Nat) a_2 n17 (0 : Nat) (0 : Nat) (1 : Nat) (rt - lf + (1 : Int)).toNat n18).den = (AV.os (3 : Nat) a_2 n17 (0 : Nat) (0 : Nat) (1 : Nat) (rt - lf + (1 : Int)).toNat n18).den ∧ True) ∧ LeH [Blk.mk n (Cont.dl Dw dwD o l S none none) false, Blk.mk n1 (Cont.cells [AV.v (Value.int IntKind.i64 t), AV.v (Value.int IntKind.i64 lf), AV.v (Value.int IntKind.i64 b), AV.v (Value.int IntKind.i64 rt)] (23 : Nat)) true, Blk.mk n8 (Cont.dl Int intD (0 : Nat) (wsL l_1 most t (b - t + (1 : Int)).toNat lf (rt - lf + (1 : Int)).toNat) S' none none) true, Blk.mk n17 (Cont.dl Int intD (0 : Nat) (wsL l_2 most t (b - t + (1 : Int)).toNat lf (rt - lf + (1 : Int)).toNat) S'_1 none none) true] [Blk.mk n (Cont.dl Dw dwD o l S none none) false, Blk.mk n1 (Cont.cells [AV.v (Value.int IntKind.i64 t), AV.v (Value.int IntKind.i64 lf), AV.v (Value.int IntKind.i64 b), AV.v (Value.int IntKind.i64 rt)] (23 : Nat)) true, Blk.mk n8 (Cont.dl Int intD (0 : Nat) (wsL l_1 most t (b - t + (1 : Int)).toNat lf (rt - lf + (1 : Int)).toNat) S' none none) true, Blk.mk n17 (Cont.dl Int intD (0 : Nat) (wsL l_2 most t (b - t + (1 : Int)).toNat lf (rt - lf + (1 : Int)).toNat) S'_1 none none) true])) (R (AV.v (Value.bool true))))))))) : LC Tryd.prog 8 [.agg [.v (.int .i64 t), .v (.int .i64 lf), .v (.int .i64 b), .v (.int .i64 rt)], .os 0 a n o 0 4 l.length cap, .v (.int .i64 most)] [rD dwD n o l S false] (fun z_ _ => R z_) :=
  lc_of_exec (tbl := tbLw) tab_ok tbLw_ok mixed (lwJ (rt - lf + 1).toNat) 2 _ Tryd.func8 rfl Tryd.ntmps8 (by decide) (by kernel_rfl) (Nat.le_of_ble_eq_true rfl) (@Eq.mpr (execN tab tbLw (lwJ (rt - lf + 1).toNat) 2 Tryd.f8.ntmps [] none 0 (body Tryd.f8) (argsT [.agg [.v (.int .i64 t), .v (.int .i64 lf), .v (.int .i64 b), .v (.int .i64 rt)], .os 0 a n o 0 4 l.length cap, .v (.int .i64 most)] 0) [rD dwD n o l S false] (post Tryd.f8 tab (retK (fun z_ _ => R z_)))) _ (by kernel_rfl) h)


theorem lw_lc (t lf b rt : Int) (l : List Dw) (a : Option Addr) (n o cap : Nat) (S : List Nat) (most : Int) (hl : l.length ≤ 9223372036854775807) :
    LC Tryd.prog 8 [.agg [.v (.int .i64 t), .v (.int .i64 lf), .v (.int .i64 b), .v (.int .i64 rt)], .os 0 a n o 0 4 l.length cap, .v (.int .i64 most)] [rD dwD n o l S false] (fun z _ => z = .v (.bool true)) :=
  lw_vc t lf b rt l a n o cap S most (by
    simp only [true_and, and_true, Int.toNat_natCast, Nat.zero_add, Nat.le_refl]
    intro n1
    refine br_intro (fun _ => trivial) (fun hb => ?_)
    have hl2 : l.length ≤ 60 := by
      simp only [Bool.or_eq_false_iff, decide_eq_false_iff_not] at hb
      omega
    refine ⟨l, S, none, false, rfl, rfl, by omega, fun e he h0 => ⟨l, S, none, false, rfl, rfl, by omega, fun e' he' h0' => ?_, fun h => absurd h (by omega)⟩, fun h0 a1 n8 n9 S' => ⟨l, S, none, false, rfl, rfl, by omega, fun e he h => absurd h (by omega), fun _ a2 n17 n18 S2 => ?_⟩⟩
    · rw [he, he']
      refine br_intro (fun h => absurd h (by simp)) (fun _ => ⟨⟨0, Nat.zero_le _, rfl, LeH.refl _⟩, fun _ _ => trivial⟩)
    · refine br_intro (fun h => absurd h (by simp)) (fun _ => ⟨⟨0, Nat.zero_le _, rfl, LeH.refl _⟩, fun i hi => br_intro (fun hlt => ?_) (fun _ => trivial)⟩)
      have hlt := of_decide_eq_true hlt
      have wl := wsL_len l most t (b - t + 1).toNat lf (rt - lf + 1).toNat
      obtain ⟨r1, r2, r3, r4, r5, r6⟩ := okR_b (badV_zero h0).1
      refine ⟨⟨by omega, hlt⟩, by omega, ⟨by omega, hlt⟩, by omega, br_intro (fun h => absurd h (by simp)) (fun _ => ⟨i + 1, by omega, by omega, ?_, LeH.refl _⟩)⟩
      rw [w64 (by omega)]; rfl)

/-- A list of data, by its columns. -/
def mkDw (g0 g1 : Nat → Int) (g2 : Nat → ByteArray) (g3 : Nat → Int) (k : Nat) : List Dw := (List.range k).map fun i => ⟨g0 i, g1 i, g2 i, g3 i⟩
theorem mkDw_len (g0 g1 : Nat → Int) (g2 : Nat → ByteArray) (g3 : Nat → Int) (k : Nat) : (mkDw g0 g1 g2 g3 k).length = k := by simp [mkDw]
theorem mkDw_le (g0 g1 : Nat → Int) (g2 : Nat → ByteArray) (g3 : Nat → Int) (k n o : Nat) (S : List Nat) : LeB ⟨n, .lst o k [.ints .i64 g0, .ints .i64 g1, .strs g2, .ints .i64 g3] S none, false⟩ (rD dwD n o (mkDw g0 g1 g2 g3 k) S false) := by
  refine LeB.dl_of_lst dwD_ok (fun h => h) rfl (by rw [mkDw_len]; exact Nat.le_refl _) fun i hi => ?_
  rw [mkDw_len] at hi
  rw [dAt_lt (by rw [mkDw_len]; exact hi)]
  simp only [mkDw, List.getElem_map, List.getElem_range]
  rfl

theorem widths_law (t lf b rt : Int) (a : Option Addr) (n o len cap : Nat) (g0 g1 : Nat → Int) (g2 : Nat → ByteArray) (g3 : Nat → Int) (S : List Nat) (most : Int) (hlen : len ≤ 9223372036854775807) :
    LC Tryd.prog 8 [.agg [.v (.int .i64 t), .v (.int .i64 lf), .v (.int .i64 b), .v (.int .i64 rt)], .os 0 a n o 0 4 len cap, .v (.int .i64 most)] [⟨n, .lst o len [.ints .i64 g0, .ints .i64 g1, .strs g2, .ints .i64 g3] S none, false⟩] (fun z _ => z = .v (.bool true)) := by
  have h := lw_lc t lf b rt (mkDw g0 g1 g2 g3 len) a n o cap S most (by rw [mkDw_len]; exact hlen)
  rw [mkDw_len] at h
  exact LC.pre h (LeH.of_bs ⟨mkDw_le .., trivial⟩) rfl

end Go.Proofs.YthkegefjmcipmaaDoor

