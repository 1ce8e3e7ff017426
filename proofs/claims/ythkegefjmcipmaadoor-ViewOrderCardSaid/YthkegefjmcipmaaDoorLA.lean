/- View: lines: both draws and their comparison as handlers; the law of draws, its condition. -/
import Derived.Test.YthkegefjmcipmaaDoorDA
import Derived.Test.YthkegefjmcipmaaDoorLT
namespace Go.Eng
open Go Go.Sp Go.Proofs.YthkegefjmcipmaaDoor

/-- What is told of lines, or why not. -/
def toldL (l : List Dw) (most t lf b rt : Int) (H : HH) (K : Out → HH → Prop) : Prop :=
  (∀ e, e = badV t lf b rt most → e ≠ 0 → K (.ret (.tup [.v (.slice none 0 0), .v (.int .i64 e)])) H) ∧
  (badV t lf b rt most = 0 → ∀ (a : Option Addr) (n c : Nat) (S' : List Nat), K (.ret (.tup [.os H.length a n 0 0 1 ((b - t + 1).toNat + 2) c, .v (.int .i64 0)])) (H ++ [rD strD n 0 (linesL l most t (b - t + 1).toNat lf (rt - lf + 1).toNat) S' true]))

def drwH : Handler := fun _ args H K =>
  match args with
  | [.agg [.v (.int .i64 t), .v (.int .i64 lf), .v (.int .i64 b), .v (.int .i64 rt)], .os i _ n o 0 4 k _, .v (.int .i64 most)] => ∃ (l : List Dw) (S : List Nat) (wr : Option (Nat × TypeId)) (w : Bool), nth H i = some ⟨n, .dl Dw dwD o l S wr none, w⟩ ∧ k = l.length ∧ l.length ≤ 1048576 ∧ (∀ d ∈ l, d.text.size ≤ 9223372036854775807) ∧ toldL l most t lf b rt H K
  | _ => False

def drwP : Handler := fun _ args H K =>
  match args with
  | [.agg [.v (.int .i64 t), .v (.int .i64 lf), .v (.int .i64 b), .v (.int .i64 rt)], .os i _ n o 0 4 k _, .v (.int .i64 most)] =>
    match nth H 0 with
    | some ⟨g, .obj o_, _⟩ => g = GT ∧ tabOk o_ ∧ ∃ (l : List Dw) (S : List Nat) (wr : Option (Nat × TypeId)) (w : Bool), nth H i = some ⟨n, .dl Dw dwD o l S wr none, w⟩ ∧ k = l.length ∧ l.length ≤ 1048576 ∧ (∀ d ∈ l, d.text.size ≤ 9223372036854775807) ∧ toldL l most t lf b rt H K
    | _ => False
  | _ => False

/-- The same lines, as a handler. -/
def sameL : Handler := fun _ args H K =>
  match args with
  | [.os i _ n o 0 1 k _, .os j _ m q 0 1 u _] => i ≠ j ∧ ∃ (l l' : List ByteArray) (S S' : List Nat) (wr wr' : Option (Nat × TypeId)) (w w' : Bool), nth H i = some ⟨n, .dl ByteArray strD o l S wr none, w⟩ ∧ nth H j = some ⟨m, .dl ByteArray strD q l' S' wr' none, w'⟩ ∧ k = l.length ∧ u = l'.length ∧ l.length ≤ 1048578 ∧ l = l' ∧ K (.ret (.v (.bool true))) H
  | [.v (.slice none 0 0), .v (.slice none 0 0)] => K (.ret (.v (.bool true))) H
  | _ => False

def smJ (k : Nat) : Nat → TT → HH → LI := fun b T H =>
  bif Nat.beq b 0 then .inv Nat (fun i => ((5, .v (.int .i64 (i : Int))) :: keepT [0, 1] T, H)) (fun i => i ≤ k) (fun i => k - i) else .unroll 0

end Go.Eng
namespace Go.Proofs.YthkegefjmcipmaaDoor
open Go Go.Eng Go.Sp
set_option linter.unusedVariables false
set_option linter.unusedSimpArgs false

theorem drwH_ok : HOk Tryd.prog 12 drwH := HOk.of_make (enters_of (c := body Tryd.f12) Tryd.func12 rfl (by kernel_rfl)) fun rs args H K hk => by
  unfold drwH at hk
  split at hk
  · rename_i t lf b rt i a n o k cap most
    obtain ⟨l, S, wr, w, h1, rfl, h2, hs, hk1, hk2⟩ := hk
    refine ⟨[rD dwD n o l S false], [.agg [.v (.int .i64 t), .v (.int .i64 lf), .v (.int .i64 b), .v (.int .i64 rt)], .os 0 a n o 0 4 l.length cap, .v (.int .i64 most)], _, leAt (H := H) [i] (by simp) ?_, fun b hb => by cases List.mem_singleton.1 hb; rfl, rfl, rdr_lc t lf b rt l a n o cap S most h2 hs, fun z H' hz => ?_⟩
    · simp only [pickH, h1]
      exact ⟨LeB.dl (fun h => (by cases h)) (.inl rfl), trivial⟩
    · rcases hz with ⟨e, rfl⟩ | ⟨e, a, n, c, S', e2, e3⟩
      · exact ⟨_, [], rfl, leAt [] List.nodup_nil trivial, fun b hb => (by cases hb), by rw [List.append_nil]; exact hk1 _ rfl e⟩
      · exact ⟨.tup [.os H.length a n 0 0 1 ((b - t + 1).toNat + 2) c, .v (.int .i64 0)], _, by rw [e2]; rfl, e3, fun b hb => by cases List.mem_singleton.1 hb; rfl, hk2 e a n c S'⟩
  · cases hk

theorem drwP_ok : HOk Tryd.prog 11 drwP := HOk.of_make (enters_of (c := body Tryd.f11) Tryd.func11 rfl (by kernel_rfl)) fun rs args H K hk => by
  unfold drwP at hk
  split at hk
  · rename_i t lf b rt i a n o k cap most
    split at hk
    · rename_i g o_ w0 h0
      obtain ⟨rfl, ho, l, S, wr, w, h1, rfl, h2, hs, hk1, hk2⟩ := hk
      have h0i : 0 ≠ i := fun e => by rw [← e, h0] at h1; cases h1
      refine ⟨[tB GT o_, rD dwD n o l S false], [.agg [.v (.int .i64 t), .v (.int .i64 lf), .v (.int .i64 b), .v (.int .i64 rt)], .os 1 a n o 0 4 l.length cap, .v (.int .i64 most)], _, leAt (H := H) [0, i] (by simp [h0i]) ?_, fun b hb => (by
        rcases List.mem_cons.1 hb with rfl | hb
        · rfl
        · cases List.mem_singleton.1 hb; rfl), rfl, drw_lc o_ ho t lf b rt l a n o cap S most h2 hs, fun z H' hz => ?_⟩
      · simp only [pickH, h0, h1]
        exact ⟨⟨fun k hk => hk, fun h => (by cases h), fun w h => h⟩, LeB.dl (fun h => (by cases h)) (.inl rfl), trivial⟩
      · rcases hz with ⟨e, rfl⟩ | ⟨e, a, n, c, S', e2, e3⟩
        · exact ⟨_, [], rfl, leAt [] List.nodup_nil trivial, fun b hb => (by cases hb), by rw [List.append_nil]; exact hk1 _ rfl e⟩
        · exact ⟨.tup [.os H.length a n 0 0 1 ((b - t + 1).toNat + 2) c, .v (.int .i64 0)], _, by rw [e2]; rfl, e3, fun b hb => by cases List.mem_singleton.1 hb; rfl, hk2 e a n c S'⟩
    · cases hk
  · cases hk


set_option maxRecDepth 100000 in
theorem sm_vc (l : List ByteArray) (a a' : Option Addr) (n o c n' o' c' : Nat) (S S' : List Nat) {R : AV → Prop} (h : (br ((↑l.length : Int) != (↑l.length : Int)) (R (AV.v (Value.bool false))) ((∃ (x : Nat), x ≤ l.length ∧ ((AV.v (Value.int IntKind.i64 (0 : Int))).den = (AV.v (Value.int IntKind.i64 (↑x : Int))).den ∧ (AV.os (0 : Nat) a n o (0 : Nat) (1 : Nat) l.length c).den = (AV.os (0 : Nat) a n o (0 : Nat) (1 : Nat) l.length c).den ∧ (AV.os (1 : Nat) a' n' o' (0 : Nat) (1 : Nat) l.length c').den = (AV.os (1 : Nat) a' n' o' (0 : Nat) (1 : Nat) l.length c').den ∧ True) ∧ LeH [Blk.mk n (Cont.dl ByteArray strD o l S none none) false, Blk.mk n' (Cont.dl ByteArray strD o' l S' none none) false] [Blk.mk n (Cont.dl ByteArray strD o l S none none) false, Blk.mk n' (Cont.dl ByteArray strD o' l S' none none) false]) ∧ ∀ (n1 : Nat), n1 ≤ l.length → br (decide ((↑n1 : Int) < (↑l.length : Int))) (((0 : Int) ≤ (↑n1 : Int) ∧ (↑n1 : Int) < (↑l.length : Int)) ∧ n = n ∧ o = o ∧ (0 : Nat) + (↑n1 : Int).toNat < l.length ∧ ((0 : Int) ≤ (↑n1 : Int) ∧ (↑n1 : Int) < (↑l.length : Int)) ∧ n' = n' ∧ o' = o' ∧ (0 : Nat) + (↑n1 : Int).toNat < l.length ∧ br (!eqS (dAt l strD.z ((0 : Nat) + (↑n1 : Int).toNat)) (dAt l strD.z ((0 : Nat) + (↑n1 : Int).toNat))) (R (AV.v (Value.bool false))) (∃ (x' : Nat), x' ≤ l.length ∧ l.length - x' < l.length - n1 ∧ ((AV.v (Value.int IntKind.i64 (IntKind.i64.wrap ((↑n1 : Int) + (1 : Int))))).den = (AV.v (Value.int IntKind.i64 (↑x' : Int))).den ∧ (AV.os (0 : Nat) a n o (0 : Nat) (1 : Nat) l.length c).den = (AV.os (0 : Nat) a n o (0 : Nat) (1 : Nat) l.length c).den ∧ (AV.os (1 : Nat) a' n' o' (0 : Nat) (1 : Nat) l.length c').den = (AV.os (1 : Nat) a' n' o' (0 : Nat) (1 : Nat) l.length c').den ∧ True) ∧ LeH [Blk.mk n (Cont.dl ByteArray strD o l S none none) false, Blk.mk n' (Cont.dl ByteArray strD o' l S' none none) false] [Blk.mk n (Cont.dl ByteArray strD o l S none none) false, Blk.mk n' (Cont.dl ByteArray strD o' l S' none none) false])) (R (AV.v (Value.bool true)))))) : LC Tryd.prog 13 [.os 0 a n o 0 1 l.length c, .os 1 a' n' o' 0 1 l.length c'] [rD strD n o l S false, rD strD n' o' l S' false] (fun z_ _ => R z_) :=
  lc_of_exec (tbl := []) tab_ok trivial mixed ((smJ l.length)) 2 _ Tryd.func13 rfl Tryd.ntmps13 (by decide) (by kernel_rfl) (Nat.le_of_ble_eq_true rfl) (@Eq.mpr (execN tab [] ((smJ l.length)) 2 Tryd.f13.ntmps [] none 0 (body Tryd.f13) (argsT [.os 0 a n o 0 1 l.length c, .os 1 a' n' o' 0 1 l.length c'] 0) [rD strD n o l S false, rD strD n' o' l S' false] (post Tryd.f13 tab (retK (fun z_ _ => R z_)))) _ (by kernel_rfl) h)



set_option maxRecDepth 100000 in
theorem sm0_vc  {R : AV → Prop} (h : ((∃ (x : Nat), x ≤ (0 : Nat) ∧ ((AV.v (Value.int IntKind.i64 (0 : Int))).den = (AV.v (Value.int IntKind.i64 (↑x : Int))).den ∧ (AV.v (Value.slice none (0 : Nat) (0 : Nat))).den = (AV.v (Value.slice none (0 : Nat) (0 : Nat))).den ∧ (AV.v (Value.slice none (0 : Nat) (0 : Nat))).den = (AV.v (Value.slice none (0 : Nat) (0 : Nat))).den ∧ True) ∧ LeH [] []) ∧ ∀ (n1 : Nat), n1 ≤ (0 : Nat) → R (AV.v (Value.bool true)))) : LC Tryd.prog 13 [.v (.slice none 0 0), .v (.slice none 0 0)] [] (fun z_ _ => R z_) :=
  lc_of_exec (tbl := []) tab_ok trivial mixed ((smJ 0)) 2 _ Tryd.func13 rfl Tryd.ntmps13 (by decide) (by kernel_rfl) (Nat.le_of_ble_eq_true rfl) (@Eq.mpr (execN tab [] ((smJ 0)) 2 Tryd.f13.ntmps [] none 0 (body Tryd.f13) (argsT [.v (.slice none 0 0), .v (.slice none 0 0)] 0) [] (post Tryd.f13 tab (retK (fun z_ _ => R z_)))) _ (by kernel_rfl) h)


theorem sm_lc (l : List ByteArray) (a a' : Option Addr) (n o c n' o' c' : Nat) (S S' : List Nat) (hl : l.length ≤ 1048578) : LC Tryd.prog 13 [.os 0 a n o 0 1 l.length c, .os 1 a' n' o' 0 1 l.length c'] [rD strD n o l S false, rD strD n' o' l S' false] (fun z _ => z = .v (.bool true)) :=
  sm_vc l a a' n o c n' o' c' S S' (by
    simp only [true_and, and_true, Int.toNat_natCast, Nat.zero_add, Nat.le_refl]
    refine br_intro (fun h => absurd h (by simp)) (fun _ => ⟨⟨0, Nat.zero_le _, rfl, LeH.refl _⟩, fun i hi => br_intro (fun hlt => ?_) (fun _ => trivial)⟩)
    have hlt := of_decide_eq_true hlt
    refine ⟨⟨by omega, hlt⟩, by omega, ⟨by omega, hlt⟩, by omega, br_intro (fun h => absurd h (by rw [eqS_refl]; decide)) (fun _ => ⟨i + 1, by omega, by omega, ?_, LeH.refl _⟩)⟩
    rw [w64 (by omega)]; rfl)

theorem same_ok : HOk Tryd.prog 13 sameL := HOk.of_read (enters_of (c := body Tryd.f13) Tryd.func13 rfl (by kernel_rfl)) fun rs args H K hk => by
  unfold sameL at hk
  split at hk
  · rename_i i a n o k c j a' m q u c'
    obtain ⟨hij, l, l', S, S', wr, wr', w, w', h1, h2, rfl, rfl, h3, rfl, hk⟩ := hk
    refine ⟨[rD strD n o l S false, rD strD m q l S' false], [.os 0 a n o 0 1 l.length c, .os 1 a' m q 0 1 l.length c'], _, leAt (H := H) [i, j] (by simp [hij]) ?_, rfl, rfl, (sm_lc l a a' n o c m q c' S S' h3).mono fun z H' hz => (by rw [hz]), hk⟩
    simp only [pickH, h1, h2]
    exact ⟨LeB.dl (fun h => (by cases h)) (.inl rfl), LeB.dl (fun h => (by cases h)) (.inl rfl), trivial⟩
  · refine ⟨[], _, _, leAt [] List.nodup_nil trivial, rfl, rfl, (sm0_vc ?_ : LC Tryd.prog 13 _ [] (fun z _ => z = .v (.bool true))).mono fun z H' hz => (by rw [hz]), hk⟩
    exact ⟨⟨0, Nat.le_refl _, ⟨rfl, rfl, rfl, trivial⟩, LeH.refl _⟩, fun i hi => by trivial⟩
  · cases hk


set_option maxRecDepth 100000 in
theorem bigO_vc (t l b r : Int) (a : Option Addr) (n o len cap : Nat) {R : AV → Prop} (h : (∀ (n1 : Nat), n1 = n1 ∧ br (ifB (okR t l b r) (0 : Int) (2 : Int) == (0 : Int)) (br (decide (areaF t l b r > (300 : Int))) (br (decide (areaF t l b r ≤ (4096 : Int))) (R (AV.v (Value.bool true))) (R (AV.v (Value.bool (decide ((↑len : Int) > (60 : Int))))))) (R (AV.v (Value.bool (decide ((↑len : Int) > (60 : Int))))))) (R (AV.v (Value.bool (decide ((↑len : Int) > (60 : Int)))))))) : LC Tryd.prog 9 [.agg [.v (.int .i64 t), .v (.int .i64 l), .v (.int .i64 b), .v (.int .i64 r)], .os 1 a n o 0 4 len cap] [] (fun z_ _ => R z_) :=
  lc_of_exec (tbl := pt4) tab_ok pt4_ok mixed noinv 2 _ Tryd.func9 rfl Tryd.ntmps9 (by decide) (by kernel_rfl) (Nat.le_of_ble_eq_true rfl) (@Eq.mpr (execN tab pt4 noinv 2 Tryd.f9.ntmps [] none 0 (body Tryd.f9) (argsT [.agg [.v (.int .i64 t), .v (.int .i64 l), .v (.int .i64 b), .v (.int .i64 r)], .os 1 a n o 0 4 len cap] 0) [] (post Tryd.f9 tab (retK (fun z_ _ => R z_)))) _ (by kernel_rfl) h)

set_option maxRecDepth 100000 in
theorem bigO_lc (t l b r : Int) (a : Option Addr) (n o len cap : Nat) : LC Tryd.prog 9 [.agg [.v (.int .i64 t), .v (.int .i64 l), .v (.int .i64 b), .v (.int .i64 r)], .os 1 a n o 0 4 len cap] [] (fun z_ _ => z_ = .v (.bool (bigF t l b r len))) :=
  bigO_vc t l b r a n o len cap (by
    intros
    simp only [true_and, br_iff, AV.v.injEq, Value.bool.injEq, and_true, bigF, areaF]
    by_cases h : okR t l b r = true
    all_goals simp [ifB, h]
    all_goals repeat' split
    all_goals repeat' (first | refine ⟨?_, ?_⟩ | intro _)
    all_goals (first | omega | trivial | (rw [Bool.eq_iff_iff]; simp only [Bool.or_eq_true, Bool.and_eq_true, decide_eq_true_eq]; omega) | skip))

def bigOH : List AV → Option AV
  | [.agg [.v (.int .i64 t), .v (.int .i64 l), .v (.int .i64 b), .v (.int .i64 r)], .os 1 a n o 0 4 len cap] => some (.v (.bool (bigF t l b r len)))
  | _ => none

theorem bigO_ok : POk Tryd.prog 9 bigOH := POk.of_lc (enters_of (c := body Tryd.f9) Tryd.func9 rfl (by kernel_rfl)) (by
  intro args v h
  unfold bigOH at h
  split at h
  · cases h; exact bigO_lc _ _ _ _ _ _ _ _ _
  · cases h)


def tbLd : Tbl := (9, .pure bigOH) :: (10, .pure livesH) :: (11, .gen drwP) :: (12, .gen drwH) :: (13, .gen sameL) :: (4294900042, .dt Dw dwD) :: (4294967294, .ext mergeFlag) :: []

theorem tbLd_ok : TblOk Tryd.prog tbLd := ⟨bigO_ok, lives_ok, drwP_ok, drwH_ok, same_ok, dwD_ok, flag_ok, trivial⟩


set_option maxRecDepth 100000 in
theorem ld_vc (o_ : Obj) (t lf b rt : Int) (l : List Dw) (a : Option Addr) (n o cap : Nat) (S : List Nat) (most : Int) {R : AV → Prop} (h : (∀ (n1 : Nat), n1 = n1 ∧ br (decide (areaF t lf b rt > (300 : Int) ∧ areaF t lf b rt ≤ (4096 : Int)) || decide (l.length > (60 : Nat))) (R (AV.v (Value.bool true))) (n1 = n1 ∧ ∀ (n2 : Nat), n = n ∧ o = o ∧ (0 : Nat) + l.length ≤ l.length ∧ ∃ (xs : List Dw), List.map dwD.enc xs = List.map dwD.enc (List.take l.length (List.drop (0 : Nat) l)) ∧ (xs.length ≤ (9223372036854775807 : Nat) ∧ (xs.length + xs.length / (4 : Nat) + (192 : Nat)) * (40 : Nat) ≤ (281474976710656 : Nat)) ∧ ∀ (a : Option Addr) (n5 n6 : Nat) (S_1 : List Nat), xs.length ≤ n6 → emptyOk a n5 xs.length n6 → some (Blk.mk n1 (Cont.cells [AV.v (Value.int IntKind.i64 t), AV.v (Value.int IntKind.i64 lf), AV.v (Value.int IntKind.i64 b), AV.v (Value.int IntKind.i64 rt)] (23 : Nat)) true) = some (Blk.mk n1 (Cont.cells [AV.v (Value.int IntKind.i64 t), AV.v (Value.int IntKind.i64 lf), AV.v (Value.int IntKind.i64 b), AV.v (Value.int IntKind.i64 rt)] (23 : Nat)) true) ∧ GT = GT ∧ tabOk o_ ∧ ∃ (l_1 : List Dw), ∃ (S_2 : List Nat), ∃ (wr : Option (Nat × TypeId)), ∃ (w : Bool), some (Blk.mk n5 (Cont.dl Dw dwD (0 : Nat) xs S_1 (some (n6, (42 : Nat))) none) true) = some (Blk.mk n5 (Cont.dl Dw dwD (0 : Nat) l_1 S_2 wr none) w) ∧ xs.length = l_1.length ∧ l_1.length ≤ (1048576 : Nat) ∧ (∀ (d : Dw), d ∈ l_1 → d.text.size ≤ (9223372036854775807 : Nat)) ∧ (∀ (e : Int), e = badV t lf b rt most → e ≠ (0 : Int) → n1 = n1 ∧ ∃ (l_2 : List Dw), ∃ (S_3 : List Nat), ∃ (wr : Option (Nat × TypeId)), ∃ (w : Bool), some (Blk.mk n (Cont.dl Dw dwD o l S none none) false) = some (Blk.mk n (Cont.dl Dw dwD o l_2 S_3 wr none) w) ∧ l.length = l_2.length ∧ l_2.length ≤ (1048576 : Nat) ∧ (∀ (d : Dw), d ∈ l_2 → d.text.size ≤ (9223372036854775807 : Nat)) ∧ (∀ (e_1 : Int), e_1 = badV t lf b rt most → e_1 ≠ (0 : Int) → br (e == e_1) (R (AV.v (Value.bool true))) (R (AV.v (Value.bool false)))) ∧ (badV t lf b rt most = (0 : Int) → ∀ (a : Option Addr) (n23 n24 : Nat) (S' : List Nat), False)) ∧ (badV t lf b rt most = (0 : Int) → ∀ (a : Option Addr) (n16 n17 : Nat) (S' : List Nat), n1 = n1 ∧ ∃ (l_2 : List Dw), ∃ (S_3 : List Nat), ∃ (wr : Option (Nat × TypeId)), ∃ (w : Bool), some (Blk.mk n (Cont.dl Dw dwD o l S none none) false) = some (Blk.mk n (Cont.dl Dw dwD o l_2 S_3 wr none) w) ∧ l.length = l_2.length ∧ l_2.length ≤ (1048576 : Nat) ∧ (∀ (d : Dw), d ∈ l_2 → d.text.size ≤ (9223372036854775807 : Nat)) ∧ (∀ (e : Int), e = badV t lf b rt most → e ≠ (0 : Int) → False) ∧ (badV t lf b rt most = (0 : Int) → ∀ (a : Option Addr) (n25 n26 : Nat) (S'_1 : List Nat), (5 : Nat) ≠ (6 : Nat) ∧ ∃ (l : List ByteArray), ∃ (l' : List ByteArray), ∃ (S : List Nat), ∃ (S'_2 : List Nat), ∃ (wr : Option (Nat × TypeId)), ∃ (wr' : Option (Nat × TypeId)), ∃ (w : Bool), ∃ (w' : Bool), some (Blk.mk n16 (Cont.dl ByteArray strD (0 : Nat) (linesL l_1 most t (b - t + (1 : Int)).toNat lf (rt - lf + (1 : Int)).toNat) S' none none) true) = some (Blk.mk n16 (Cont.dl ByteArray strD (0 : Nat) l S wr none) w) ∧ some (Blk.mk n25 (Cont.dl ByteArray strD (0 : Nat) (linesL l_2 most t (b - t + (1 : Int)).toNat lf (rt - lf + (1 : Int)).toNat) S'_1 none none) true) = some (Blk.mk n25 (Cont.dl ByteArray strD (0 : Nat) l' S'_2 wr' none) w') ∧ (b - t + (1 : Int)).toNat + (2 : Nat) = l.length ∧ (b - t + (1 : Int)).toNat + (2 : Nat) = l'.length ∧ l.length ≤ (1048578 : Nat) ∧ l = l' ∧ R (AV.v (Value.bool true))))))) : LC Tryd.prog 3 [.agg [.v (.int .i64 t), .v (.int .i64 lf), .v (.int .i64 b), .v (.int .i64 rt)], .os 1 a n o 0 4 l.length cap, .v (.int .i64 most)] [tB GT o_, rD dwD n o l S false] (fun z_ _ => R z_) :=
  lc_of_exec (tbl := tbLd) tab_ok tbLd_ok mixed noinv 2 _ Tryd.func3 rfl Tryd.ntmps3 (by decide) (by kernel_rfl) (Nat.le_of_ble_eq_true rfl) (@Eq.mpr (execN tab tbLd noinv 2 Tryd.f3.ntmps [] none 0 (body Tryd.f3) (argsT [.agg [.v (.int .i64 t), .v (.int .i64 lf), .v (.int .i64 b), .v (.int .i64 rt)], .os 1 a n o 0 4 l.length cap, .v (.int .i64 most)] 0) [tB GT o_, rD dwD n o l S false] (post Tryd.f3 tab (retK (fun z_ _ => R z_)))) _ (by kernel_rfl) h)


end Go.Proofs.YthkegefjmcipmaaDoor

namespace Go.Proofs.YthkegefjmcipmaaDoor
open Go Go.Eng Go.Sp
set_option linter.unusedVariables false
set_option linter.unusedSimpArgs false

theorem linesL_len (l : List Dw) (most t : Int) (n : Nat) (lf : Int) (m : Nat) : (linesL l most t n lf m).length = n + 2 := by rw [← linesK_all, linesK_len]

theorem ld_lc (o_ : Obj) (ho : tabOk o_) (t lf b rt : Int) (l : List Dw) (a : Option Addr) (n o cap : Nat) (S : List Nat) (most : Int) (hl : l.length ≤ 9223372036854775807) (hs : ∀ d ∈ l, d.text.size ≤ 9223372036854775807) :
    LC Tryd.prog 3 [.agg [.v (.int .i64 t), .v (.int .i64 lf), .v (.int .i64 b), .v (.int .i64 rt)], .os 1 a n o 0 4 l.length cap, .v (.int .i64 most)] [tB GT o_, rD dwD n o l S false] (fun z _ => z = .v (.bool true)) :=
  ld_vc o_ t lf b rt l a n o cap S most (by
    simp only [true_and, and_true, Int.toNat_natCast, Nat.zero_add, Nat.le_refl]
    intro n1
    refine br_intro (fun _ => trivial) (fun hb => ?_)
    have hl2 : l.length ≤ 60 := by
      simp only [Bool.or_eq_false_iff, decide_eq_false_iff_not] at hb
      omega
    intro n2
    refine ⟨l, by simp, ⟨by omega, by omega⟩, fun a1 n5 n6 S1 k1 k2 => ⟨ho, l, S1, some (n6, 42), true, rfl, rfl, by omega, hs, fun e he h0 => ⟨l, S, none, false, rfl, rfl, by omega, hs, fun e' he' h0' => ?_, fun h => absurd h (by omega)⟩, fun h0 a2 n16 n17 S2 => ⟨l, S, none, false, rfl, rfl, by omega, hs, fun e he h => absurd h (by omega), fun _ a3 n25 n26 S3 => ?_⟩⟩⟩
    · rw [he, he']
      exact br_intro (fun _ => trivial) (fun h => absurd h (by simp))
    · obtain ⟨r1, r2, r3, r4, r5, r6⟩ := okR_b (badV_zero h0).1
      have e := linesL_len l most t (b - t + 1).toNat lf (rt - lf + 1).toNat
      exact ⟨by decide, _, _, _, _, _, _, _, _, rfl, rfl, e.symm, e.symm, by rw [e]; omega, rfl⟩)

theorem mkDw_small {g0 g1 : Nat → Int} {g2 : Nat → ByteArray} {g3 : Nat → Int} {k : Nat} (h : ∀ i, i < k → (g2 i).size ≤ 9223372036854775807) : ∀ d ∈ mkDw g0 g1 g2 g3 k, d.text.size ≤ 9223372036854775807 := fun d hd => by
  obtain ⟨i, hi, rfl⟩ := List.mem_map.1 hd
  exact h i (List.mem_range.1 hi)

theorem draws_law (o_ : Obj) (ho : tabOk o_) (t lf b rt : Int) (a : Option Addr) (n o len cap : Nat) (g0 g1 : Nat → Int) (g2 : Nat → ByteArray) (g3 : Nat → Int) (S : List Nat) (most : Int) (hlen : len ≤ 9223372036854775807) (hs : ∀ i, i < len → (g2 i).size ≤ 9223372036854775807) :
    LC Tryd.prog 3 [.agg [.v (.int .i64 t), .v (.int .i64 lf), .v (.int .i64 b), .v (.int .i64 rt)], .os 1 a n o 0 4 len cap, .v (.int .i64 most)] [tB GT o_, ⟨n, .lst o len [.ints .i64 g0, .ints .i64 g1, .strs g2, .ints .i64 g3] S none, false⟩] (fun z _ => z = .v (.bool true)) := by
  have h := ld_lc o_ ho t lf b rt (mkDw g0 g1 g2 g3 len) a n o cap S most (by rw [mkDw_len]; exact hlen) (mkDw_small hs)
  rw [mkDw_len] at h
  exact LC.pre h (LeH.of_bs ⟨LeB.refl _, mkDw_le .., trivial⟩) rfl

end Go.Proofs.YthkegefjmcipmaaDoor

