/- Csv: are rows the same? Its condition. -/
import Derived.Test.YtdokphikobfakaaDoorX1
namespace Go.Sp
open Go.Eng

/-- Two rows are the same. -/
def rowEq (g1 g2 : Nat → RW) (F1 F2 : Nat → Nat → ByteArray) (i : Nat) : Prop := (g1 i).len = (g2 i).len ∧ ∀ j, j < (g1 i).len → F1 i j = F2 i j

/-- All rows are the same. -/
def sameP (L1 L2 : Nat) (g1 g2 : Nat → RW) (F1 F2 : Nat → Nat → ByteArray) : Prop := L1 = L2 ∧ ∀ i, i < L1 → rowEq g1 g2 F1 F2 i

open Classical in
noncomputable def sameV (L1 L2 : Nat) (g1 g2 : Nat → RW) (F1 F2 : Nat → Nat → ByteArray) : Bool := decide (sameP L1 L2 g1 g2 F1 F2)

end Go.Sp
namespace Go.Eng
open Go.Sp Go.Proofs.YtdokphikobfakaaDoor

def samJ (L1 : Nat) (g1 g2 : Nat → RW) (F1 F2 : Nat → Nat → ByteArray) : Nat → TT → HH → LI := fun b T H =>
  match b with
  | 0 => .inv Nat (fun i => ((5, .v (.int .i64 (i : Int))) :: keepT [0, 1] T, H)) (fun i => i ≤ L1 ∧ ∀ p, p < i → rowEq g1 g2 F1 F2 p) (fun i => L1 - i)
  | 2 =>
    match T.get 5 with
    | some (.v (.int _ i)) => .inv Nat (fun k => ((6, .v (.int .i64 (k : Int))) :: keepT [0, 1, 5] T, H)) (fun k => k ≤ (g1 i.toNat).len ∧ ∀ j, j < k → F1 i.toNat j = F2 i.toNat j) (fun k => (g1 i.toNat).len - k)
    | _ => .unroll 0
  | _ => .unroll 0

end Go.Eng
namespace Go.Proofs.YtdokphikobfakaaDoor
open Go Go.Eng Go.Sp
set_option linter.unusedVariables false
set_option linter.unusedSimpArgs false


set_option maxRecDepth 100000 in
theorem sam0_vc (a1 a2 : Option Addr) (n1 o1 L1 cap1 n2 o2 L2 cap2 : Nat) (g1 g2 : Nat → RW) (F1 F2 : Nat → Nat → ByteArray) (S1 S2 : List Nat) {R : AV → Prop} (h : (br ((↑L1 : Int) != (↑L2 : Int)) (R (AV.v (Value.bool false))) ((∃ (x : Nat), (x ≤ L1 ∧ ∀ (p : Nat), p < x → rowEq g1 g2 F1 F2 p) ∧ ((AV.v (Value.int IntKind.i64 (0 : Int))).den = (AV.v (Value.int IntKind.i64 (↑x : Int))).den ∧ (AV.os (0 : Nat) a1 n1 o1 (0 : Nat) (1 : Nat) L1 cap1).den = (AV.os (0 : Nat) a1 n1 o1 (0 : Nat) (1 : Nat) L1 cap1).den ∧ (AV.os (1 : Nat) a2 n2 o2 (0 : Nat) (1 : Nat) L2 cap2).den = (AV.os (1 : Nat) a2 n2 o2 (0 : Nat) (1 : Nat) L2 cap2).den ∧ True) ∧ LeH [Blk.mk n1 (Cont.texts o1 L1 g1 F1 S1 false) false, Blk.mk n2 (Cont.texts o2 L2 g2 F2 S2 false) false] [Blk.mk n1 (Cont.texts o1 L1 g1 F1 S1 false) false, Blk.mk n2 (Cont.texts o2 L2 g2 F2 S2 false) false]) ∧ ∀ (n1_1 : Nat), (n1_1 ≤ L1 ∧ ∀ (p : Nat), p < n1_1 → rowEq g1 g2 F1 F2 p) → br (decide ((↑n1_1 : Int) < (↑L1 : Int))) (((0 : Int) ≤ (↑n1_1 : Int) ∧ (↑n1_1 : Int) < (↑L1 : Int)) ∧ n1 = n1 ∧ o1 = o1 ∧ (0 : Nat) + (↑n1_1 : Int).toNat < L1 ∧ ((0 : Int) ≤ (↑n1_1 : Int) ∧ (↑n1_1 : Int) < (↑L2 : Int)) ∧ n2 = n2 ∧ o2 = o2 ∧ (0 : Nat) + (↑n1_1 : Int).toNat < L2 ∧ br ((↑(g1 ((0 : Nat) + (↑n1_1 : Int).toNat)).len : Int) != (↑(g2 ((0 : Nat) + (↑n1_1 : Int).toNat)).len : Int)) (R (AV.v (Value.bool false))) ((∃ (x : Nat), (x ≤ (g1 (↑n1_1 : Int).toNat).len ∧ ∀ (j : Nat), j < x → F1 (↑n1_1 : Int).toNat j = F2 (↑n1_1 : Int).toNat j) ∧ ((AV.v (Value.int IntKind.i64 (0 : Int))).den = (AV.v (Value.int IntKind.i64 (↑x : Int))).den ∧ (AV.os (0 : Nat) a1 n1 o1 (0 : Nat) (1 : Nat) L1 cap1).den = (AV.os (0 : Nat) a1 n1 o1 (0 : Nat) (1 : Nat) L1 cap1).den ∧ (AV.os (1 : Nat) a2 n2 o2 (0 : Nat) (1 : Nat) L2 cap2).den = (AV.os (1 : Nat) a2 n2 o2 (0 : Nat) (1 : Nat) L2 cap2).den ∧ (AV.v (Value.int IntKind.i64 (↑n1_1 : Int))).den = (AV.v (Value.int IntKind.i64 (↑n1_1 : Int))).den ∧ True) ∧ LeH [Blk.mk n1 (Cont.texts o1 L1 g1 F1 S1 false) false, Blk.mk n2 (Cont.texts o2 L2 g2 F2 S2 false) false] [Blk.mk n1 (Cont.texts o1 L1 g1 F1 S1 false) false, Blk.mk n2 (Cont.texts o2 L2 g2 F2 S2 false) false]) ∧ ∀ (n3 : Nat), (n3 ≤ (g1 (↑n1_1 : Int).toNat).len ∧ ∀ (j : Nat), j < n3 → F1 (↑n1_1 : Int).toNat j = F2 (↑n1_1 : Int).toNat j) → ((0 : Int) ≤ (↑n1_1 : Int) ∧ (↑n1_1 : Int) < (↑L1 : Int)) ∧ n1 = n1 ∧ o1 = o1 ∧ (0 : Nat) + (↑n1_1 : Int).toNat < L1 ∧ br (decide ((↑n3 : Int) < (↑(g1 ((0 : Nat) + (↑n1_1 : Int).toNat)).len : Int))) (((0 : Int) ≤ (↑n1_1 : Int) ∧ (↑n1_1 : Int) < (↑L1 : Int)) ∧ n1 = n1 ∧ o1 = o1 ∧ (0 : Nat) + (↑n1_1 : Int).toNat < L1 ∧ ((0 : Int) ≤ (↑n3 : Int) ∧ (↑n3 : Int) < (↑(g1 ((0 : Nat) + (↑n1_1 : Int).toNat)).len : Int)) ∧ ∃ (q : Nat), q < L1 ∧ (g1 ((0 : Nat) + (↑n1_1 : Int).toNat)).n = (g1 q).n ∧ (g1 ((0 : Nat) + (↑n1_1 : Int).toNat)).o = (g1 q).o ∧ (0 : Nat) + (↑n3 : Int).toNat < (g1 q).len ∧ ((0 : Int) ≤ (↑n1_1 : Int) ∧ (↑n1_1 : Int) < (↑L2 : Int)) ∧ n2 = n2 ∧ o2 = o2 ∧ (0 : Nat) + (↑n1_1 : Int).toNat < L2 ∧ ((0 : Int) ≤ (↑n3 : Int) ∧ (↑n3 : Int) < (↑(g2 ((0 : Nat) + (↑n1_1 : Int).toNat)).len : Int)) ∧ ∃ (q_1 : Nat), q_1 < L2 ∧ (g2 ((0 : Nat) + (↑n1_1 : Int).toNat)).n = (g2 q_1).n ∧ (g2 ((0 : Nat) + (↑n1_1 : Int).toNat)).o = (g2 q_1).o ∧ (0 : Nat) + (↑n3 : Int).toNat < (g2 q_1).len ∧ br (!eqS (F1 q ((0 : Nat) + (↑n3 : Int).toNat)) (F2 q_1 ((0 : Nat) + (↑n3 : Int).toNat))) (R (AV.v (Value.bool false))) (∃ (x' : Nat), (x' ≤ (g1 (↑n1_1 : Int).toNat).len ∧ ∀ (j : Nat), j < x' → F1 (↑n1_1 : Int).toNat j = F2 (↑n1_1 : Int).toNat j) ∧ (g1 (↑n1_1 : Int).toNat).len - x' < (g1 (↑n1_1 : Int).toNat).len - n3 ∧ ((AV.v (Value.int IntKind.i64 (IntKind.i64.wrap ((↑n3 : Int) + (1 : Int))))).den = (AV.v (Value.int IntKind.i64 (↑x' : Int))).den ∧ (AV.os (0 : Nat) a1 n1 o1 (0 : Nat) (1 : Nat) L1 cap1).den = (AV.os (0 : Nat) a1 n1 o1 (0 : Nat) (1 : Nat) L1 cap1).den ∧ (AV.os (1 : Nat) a2 n2 o2 (0 : Nat) (1 : Nat) L2 cap2).den = (AV.os (1 : Nat) a2 n2 o2 (0 : Nat) (1 : Nat) L2 cap2).den ∧ (AV.v (Value.int IntKind.i64 (↑n1_1 : Int))).den = (AV.v (Value.int IntKind.i64 (↑n1_1 : Int))).den ∧ True) ∧ LeH [Blk.mk n1 (Cont.texts o1 L1 g1 F1 S1 false) false, Blk.mk n2 (Cont.texts o2 L2 g2 F2 S2 false) false] [Blk.mk n1 (Cont.texts o1 L1 g1 F1 S1 false) false, Blk.mk n2 (Cont.texts o2 L2 g2 F2 S2 false) false])) (∃ (x' : Nat), (x' ≤ L1 ∧ ∀ (p : Nat), p < x' → rowEq g1 g2 F1 F2 p) ∧ L1 - x' < L1 - n1_1 ∧ ((AV.v (Value.int IntKind.i64 (IntKind.i64.wrap ((↑n1_1 : Int) + (1 : Int))))).den = (AV.v (Value.int IntKind.i64 (↑x' : Int))).den ∧ (AV.os (0 : Nat) a1 n1 o1 (0 : Nat) (1 : Nat) L1 cap1).den = (AV.os (0 : Nat) a1 n1 o1 (0 : Nat) (1 : Nat) L1 cap1).den ∧ (AV.os (1 : Nat) a2 n2 o2 (0 : Nat) (1 : Nat) L2 cap2).den = (AV.os (1 : Nat) a2 n2 o2 (0 : Nat) (1 : Nat) L2 cap2).den ∧ True) ∧ LeH [Blk.mk n1 (Cont.texts o1 L1 g1 F1 S1 false) false, Blk.mk n2 (Cont.texts o2 L2 g2 F2 S2 false) false] [Blk.mk n1 (Cont.texts o1 L1 g1 F1 S1 false) false, Blk.mk n2 (Cont.texts o2 L2 g2 F2 S2 false) false]))) (R (AV.v (Value.bool true)))))) : LC Tryd.prog 14 [.os 0 a1 n1 o1 0 1 L1 cap1, .os 1 a2 n2 o2 0 1 L2 cap2] [⟨n1, .texts o1 L1 g1 F1 S1 false, false⟩, ⟨n2, .texts o2 L2 g2 F2 S2 false, false⟩] (fun z_ _ => R z_) :=
  lc_of_exec (tbl := []) tab_ok trivial mixed ((samJ L1 g1 g2 F1 F2)) 2 _ Tryd.func14 rfl Tryd.ntmps14 (by decide) (by kernel_rfl) (Nat.le_of_ble_eq_true rfl) (@Eq.mpr (execN tab [] ((samJ L1 g1 g2 F1 F2)) 2 Tryd.f14.ntmps [] none 0 (body Tryd.f14) (argsT [.os 0 a1 n1 o1 0 1 L1 cap1, .os 1 a2 n2 o2 0 1 L2 cap2] 0) [⟨n1, .texts o1 L1 g1 F1 S1 false, false⟩, ⟨n2, .texts o2 L2 g2 F2 S2 false, false⟩] (post Tryd.f14 tab (retK (fun z_ _ => R z_)))) _ (by kernel_rfl) h)

end Go.Proofs.YtdokphikobfakaaDoor

namespace Go.Sp
open Go.Eng Go.Proofs.YtdokphikobfakaaDoor

/-- What Read tells, in one. -/
def rdS (s : ByteArray) (c : Int) (rs : List (List ByteArray)) (b code : Int) : Prop :=
  (¬ sepOk c ∧ rs = [] ∧ b = 0 ∧ code = 2) ∨
  (sepOk c ∧ rowsF s c.toNat.toUInt8 0 = none ∧ rs = [] ∧ 0 ≤ b ∧ b ≤ (s.size : Int) ∧ code = 13) ∨
  (sepOk c ∧ (∃ rs', rowsF s c.toNat.toUInt8 0 = some rs' ∧ bigR rs') ∧ rs = [] ∧ b = 0 ∧ code = 7) ∨
  (sepOk c ∧ rowsF s c.toNat.toUInt8 0 = some rs ∧ ¬ bigR rs ∧ b = 0 ∧ code = 0)

open Classical in
theorem sameV_yes {L1 L2 : Nat} {g1 g2 : Nat → RW} {F1 F2 : Nat → Nat → ByteArray} (h : sameP L1 L2 g1 g2 F1 F2) : sameV L1 L2 g1 g2 F1 F2 = true := by
  unfold sameV; exact decide_eq_true h
open Classical in
theorem sameV_no {L1 L2 : Nat} {g1 g2 : Nat → RW} {F1 F2 : Nat → Nat → ByteArray} (h : ¬ sameP L1 L2 g1 g2 F1 F2) : sameV L1 L2 g1 g2 F1 F2 = false := by
  unfold sameV; exact decide_eq_false h

end Go.Sp
namespace Go.Eng
open Go.Sp Go.Proofs.YtdokphikobfakaaDoor

def sameH : Handler := fun _ args H K =>
  match args with
  | [.os i1 _ n1 o1 0 1 L1 _, .os i2 _ n2 o2 0 1 L2 _] => ∃ (g1 g2 : Nat → RW) (F1 F2 : Nat → Nat → ByteArray) (S1 S2 : List Nat) (w1 w2 : Bool), nth H i1 = some ⟨n1, .texts o1 L1 g1 F1 S1 false, w1⟩ ∧ nth H i2 = some ⟨n2, .texts o2 L2 g2 F2 S2 false, w2⟩ ∧ i1 ≠ i2 ∧ (L1 ≤ 1099511627776 ∧ ∀ i, i < L1 → (g1 i).len ≤ 1099511627776) ∧ K (.ret (.v (.bool (sameV L1 L2 g1 g2 F1 F2)))) H
  | _ => False

def rdH : Handler := fun _ args H K =>
  match args with
  | [.v (.string s), .v (.int .u8 c)] => (0 ≤ c ∧ c ≤ 255 ∧ s.size ≤ 268435456) ∧ ∀ (rs : List (List ByteArray)) (b code : Int) (g : Nat → RW) (a : Option Addr) (n cap : Nat) (S : List Nat), rdS s c rs b code → (∀ i, i < rs.length → (g i).len = (rs.getD i []).length) →
      K (.ret (.tup [.os H.length a n 0 0 1 rs.length cap, .v (.int .i64 b), .v (.int .i64 code)])) (H ++ [⟨n, .texts 0 rs.length g (atR rs) S false, true⟩])
  | _ => False

end Go.Eng
namespace Go.Proofs.YtdokphikobfakaaDoor
open Go Go.Eng Go.Sp
set_option linter.unusedVariables false
set_option linter.unusedSimpArgs false

theorem sam_lc (a1 a2 : Option Addr) (n1 o1 L1 cap1 n2 o2 L2 cap2 : Nat) (g1 g2 : Nat → RW) (F1 F2 : Nat → Nat → ByteArray) (S1 S2 : List Nat) (hL : L1 ≤ 1099511627776) (hg : ∀ i, i < L1 → (g1 i).len ≤ 1099511627776) :
    LC Tryd.prog 14 [.os 0 a1 n1 o1 0 1 L1 cap1, .os 1 a2 n2 o2 0 1 L2 cap2] [⟨n1, .texts o1 L1 g1 F1 S1 false, false⟩, ⟨n2, .texts o2 L2 g2 F2 S2 false, false⟩] (fun z _ => z = .v (.bool (sameV L1 L2 g1 g2 F1 F2))) :=
  sam0_vc a1 a2 n1 o1 L1 cap1 n2 o2 L2 cap2 g1 g2 F1 F2 S1 S2 (by
    simp only [true_and, and_true]
    refine br_intro (fun hne => ?_) (fun heq => ?_)
    · rw [sameV_no fun h => by rw [h.1] at hne; simp at hne]
    have hL2 : L1 = L2 := by have := bne_eq_false_iff_eq.1 heq; omega
    refine ⟨⟨0, ⟨Nat.zero_le _, fun p hp => absurd hp (Nat.not_lt_zero _)⟩, rfl, LeH.refl _⟩, fun i hi => br_intro (fun hlt => ?_) (fun hge => ?_)⟩
    rotate_left
    · have hiL : i = L1 := by have := of_decide_eq_false hge; have := hi.1; omega
      rw [sameV_yes ⟨hL2, fun p hp => hi.2 p (by omega)⟩]
    obtain ⟨i1, i2⟩ := hi
    have hlt : i < L1 := by have := of_decide_eq_true hlt; omega
    have hgi := hg i hlt
    simp only [Int.toNat_natCast, Nat.zero_add]
    refine ⟨⟨by omega, by omega⟩, hlt, ⟨by omega, by omega⟩, by omega, br_intro (fun hne => ?_) (fun hle => ?_)⟩
    · rw [sameV_no fun h => by rw [(h.2 i hlt).1] at hne; simp at hne]
    have hlen : (g1 i).len = (g2 i).len := by have := bne_eq_false_iff_eq.1 hle; omega
    refine ⟨⟨0, ⟨Nat.zero_le _, fun p hp => absurd hp (Nat.not_lt_zero _)⟩, rfl, LeH.refl _⟩, fun k hk => ⟨⟨by omega, by omega⟩, hlt, br_intro (fun hkl => ?_) (fun hkg => ?_)⟩⟩
    · obtain ⟨k1, k2⟩ := hk
      have hkl : k < (g1 i).len := by have := of_decide_eq_true hkl; omega
      refine ⟨⟨by omega, by omega⟩, hlt, ⟨by omega, by omega⟩, i, hlt, rfl, rfl, hkl, ⟨by omega, by omega⟩, by omega, ⟨by omega, by omega⟩, i, by omega, rfl, rfl, by omega, br_intro (fun hd => ?_) (fun hs => ?_)⟩
      · rw [sameV_no fun h => by rw [(h.2 i hlt).2 k hkl] at hd; simp [eqS] at hd]
      · have hs : F1 i k = F2 i k := eqS_iff.1 (by simpa using hs)
        refine ⟨k + 1, ⟨hkl, fun j hj => ?_⟩, by omega, i6_step (by omega), LeH.refl _⟩
        rcases Nat.lt_or_ge j k with h | h
        · exact k2 j h
        · obtain rfl : j = k := by omega
          exact hs
    · obtain ⟨k1, k2⟩ := hk
      have hkg : k = (g1 i).len := by have := of_decide_eq_false hkg; omega
      refine ⟨i + 1, ⟨hlt, fun p hp => ?_⟩, by omega, i6_step (by omega), LeH.refl _⟩
      rcases Nat.lt_or_ge p i with h | h
      · exact i2 p h
      · obtain rfl : p = i := by omega
        exact ⟨hlen, fun j hj => k2 j (by omega)⟩)

theorem sameH_ok : HOk Tryd.prog 14 sameH := HOk.of_read (enters_of (c := body Tryd.f14) Tryd.func14 rfl (by kernel_rfl)) fun rs args H K hk => by
  unfold sameH at hk
  split at hk
  · rename_i id1 a1 n1 o1 L1 cap1 id2 a2 n2 o2 L2 cap2
    obtain ⟨g1, g2, F1, F2, S1, S2, w1, w2, h1, h2, h3, ⟨h4, h5⟩, hk⟩ := hk
    refine ⟨_, [.os 0 a1 n1 o1 0 1 L1 cap1, .os 1 a2 n2 o2 0 1 L2 cap2], _, leAt (H := H) (H' := [⟨n1, .texts o1 L1 g1 F1 S1 false, false⟩, ⟨n2, .texts o2 L2 g2 F2 S2 false, false⟩]) [id1, id2] (by simp [h3]) ?_, rfl, rfl, (sam_lc a1 a2 n1 o1 L1 cap1 n2 o2 L2 cap2 g1 g2 F1 F2 S1 S2 h4 h5).mono fun r H' e => by rw [e], hk⟩
    simp only [pickH, h1, h2]
    exact ⟨texts_read, texts_read, trivial⟩
  · exact hk.elim

theorem nil_texts {H' : HH} : LeH H' [⟨0, .texts 0 0 (fun _ => ⟨0, 0, 0, 0, none⟩) (atR []) [] false, true⟩] := by
  have h1 := leAt (H := H') (H' := []) [] List.nodup_nil trivial
  exact h1.trans (LeH.more (H := []) (b := ⟨0, .texts 0 0 (fun _ => ⟨0, 0, 0, 0, none⟩) (atR []) [] false, true⟩) rfl fun w => ⟨fun k hk => (by cases hk), fun h => absurd h (Nat.lt_irrefl _), fun i hi => absurd hi (Nat.not_lt_zero _), fun h => (by cases h)⟩)

theorem rdH_ok : HOk Tryd.prog 13 rdH := HOk.of_make (enters_of (c := body Tryd.f13) Tryd.func13 rfl (by kernel_rfl)) fun rs args H K hk => by
  unfold rdH at hk
  split at hk
  · rename_i s c
    obtain ⟨⟨h1, h2, h3⟩, hk⟩ := hk
    refine ⟨[], [.v (.string s), .v (.int .u8 c)], _, leAt [] List.nodup_nil trivial, fun b hb => (by cases hb), rfl, rd_lc s c h1 h2 h3, fun z H' hz => ?_⟩
    have own1 : ∀ {n L : Nat} {g : Nat → RW} {F : Nat → Nat → ByteArray} {S : List Nat}, allOwn [⟨n, .texts 0 L g F S false, true⟩] := fun b hb => by cases List.mem_singleton.1 hb; rfl
    rcases hz with ⟨q1, rfl⟩ | ⟨q1, q2, b, q3, q4, rfl⟩ | ⟨rs, q1, q2, q3, rfl⟩ | ⟨rs, g, a, n, cap, S, q1, q2, q3, q4, rfl, q5⟩
    · exact ⟨.tup [.os H.length none 0 0 0 1 0 0, .v (.int .i64 0), .v (.int .i64 2)], _, rfl, nil_texts, own1, hk [] 0 2 (fun _ => ⟨0, 0, 0, 0, none⟩) none 0 0 [] (.inl ⟨q1, rfl, rfl, rfl⟩) fun i hi => absurd hi (Nat.not_lt_zero _)⟩
    · exact ⟨.tup [.os H.length none 0 0 0 1 0 0, .v (.int .i64 b), .v (.int .i64 13)], _, rfl, nil_texts, own1, hk [] b 13 (fun _ => ⟨0, 0, 0, 0, none⟩) none 0 0 [] (.inr (.inl ⟨q1, q2, rfl, q3, q4, rfl⟩)) fun i hi => absurd hi (Nat.not_lt_zero _)⟩
    · exact ⟨.tup [.os H.length none 0 0 0 1 0 0, .v (.int .i64 0), .v (.int .i64 7)], _, rfl, nil_texts, own1, hk [] 0 7 (fun _ => ⟨0, 0, 0, 0, none⟩) none 0 0 [] (.inr (.inr (.inl ⟨q1, ⟨rs, q2, q3⟩, rfl, rfl, rfl⟩))) fun i hi => absurd hi (Nat.not_lt_zero _)⟩
    · exact ⟨.tup [.os H.length a n 0 0 1 rs.length cap, .v (.int .i64 0), .v (.int .i64 0)], _, rfl, q5, own1, hk rs 0 0 g a n cap S (.inr (.inr (.inr ⟨q1, q2, q3, rfl, rfl⟩))) q4⟩
  · exact hk.elim
end Go.Proofs.YtdokphikobfakaaDoor

