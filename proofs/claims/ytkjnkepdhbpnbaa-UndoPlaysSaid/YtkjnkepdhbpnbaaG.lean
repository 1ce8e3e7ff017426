/- Undo: marks, and what Push makes of them. -/
import Derived.Test.YtkjnkepdhbpnbaaB
import Derived.Test.YtkjnkepdhbpnbaaEngQ
import Derived.Test.YtkjnkepdhbpnbaaEngL
namespace Go.Sp
open Go.Eng

/-- Marks: a name, its place, and when it came. -/
abbrev MK := List ((ByteArray × Int) × Nat)

/-- Marks of which some were gone through: those that are not so are gone, the others have moved. -/
def kf (f t : Int) (r : List Nat) (es : MK) : MK := es.filterMap fun e => if e.2 ∈ r then (if f ≤ e.1.2 ∧ e.1.2 ≤ t then some ((e.1.1, e.1.2 - f), e.2) else none) else some e

end Go.Sp
namespace Go.Eng
open Go.Sp

def kyM (a : ByteArray × Int) : AV := .v (.string a.1)
def vlM (a : ByteArray × Int) : AV := .v (.int .i64 a.2)
def mkM (k v : AV) : Option (ByteArray × Int) :=
  match k, v with
  | .v (.string s), .v (.int .i64 n) => some (s, n)
  | _, _ => none

/-- A map of marks. -/
def markC (es : MK) (clock : Nat) : Cont := .mape (ByteArray × Int) kyM vlM mkM es clock

/-- The map in block i has these entries. -/
def mapH (i : Nat) (es : MK) (H : HH) : HH :=
  match nth H i with
  | some ⟨n, .mape _ _ _ _ _ clock, o⟩ => H.set i ⟨n, .mape (ByteArray × Int) kyM vlM mkM es clock, o⟩
  | _ => H

/-- The iterator in block i has gone through these. -/
def iterH (i : Nat) (r : List Nat) (H : HH) : HH :=
  match nth H i with
  | some ⟨n, .itere mid mn since _, o⟩ => H.set i ⟨n, .itere mid mn since r, o⟩
  | _ => H

/-- What is known at the head of the loop over marks. -/
def keepJ (es : MK) : Nat → TT → HH → LI := fun _ T H =>
  match T.get 1, T.get 2, T.get 12 with
  | some (.v (.int _ f)), some (.v (.int _ t)), some (.ptr i _ _) => .inv (List Nat) (fun r => (keepT [0, 1, 2, 12] T, iterH i r (mapH 1 (kf f t r es) H))) (fun r => r.Nodup ∧ ∀ b ∈ r, b ∈ es.map (·.2)) (fun r => es.length - r.length)
  | _, _, _ => .unroll 0

end Go.Eng
namespace Go.Proofs.Ytkjnkepdhbpnbaa
open Go Go.Eng Go.Sp
set_option linter.unusedVariables false
set_option linter.unusedSimpArgs false

def keepE (es : MK) : Handler := inlH tab [] (keepJ es) 2 Try.f27 3

set_option maxRecDepth 100000 in
theorem keepE_ok (es : MK) : HOk Try.prog 27 (keepE es) :=
  inl_ok (tbl := []) tab_ok trivial mixed (keepJ es) 2 _ 3 Try.func27 rfl Try.ntmps27 (by decide) (by kernel_rfl) (Nat.le_of_ble_eq_true rfl)

def tbE (es : MK) : Tbl := (25, .gen madeI) :: (27, .gen (keepE es)) :: []

theorem tbE_ok (es : MK) : TblOk Try.prog (tbE es) := ⟨made_ok, keepE_ok es, trivial⟩


set_option maxRecDepth 100000 in
theorem push0_vc (hn mn : Nat) (m : Int) (es : MK) (clock : Nat) (x : Int) {R : AV → HH → Prop} (h : (hn = hn ∧
 hn = hn ∧
 hn = hn ∧
 hn = hn ∧
 ((0 : Int) ≤ (0 : Int) ∧ (0 : Int) ≤ (0 : Int)) ∧
 ((0 : Int) ≤ (0 : Int) ∧ (0 : Int) ≤ (0 : Int)) ∧
 ∀ (n1 : Nat),
 n1 = n1 ∧
 ((1 : Nat) ≤ (9223372036854775807 : Nat) ∧ (1544 : Nat) ≤ (281474976710656 : Nat)) ∧
 ∀ (n2 n3 : Nat),
 (1 : Nat) ≤ n3 →
 some (Blk.mk hn (Cont.cells [AV.v (Value.int IntKind.i64 m), AV.v (Value.int IntKind.i64 (0 : Int)), AV.v (Value.slice none (0 : Nat) (0 : Nat)), AV.mp (1 : Nat) mn] (55 : Nat)) true) = some (Blk.mk hn (Cont.cells [AV.v (Value.int IntKind.i64 m), AV.v (Value.int IntKind.i64 (0 : Int)), AV.v (Value.slice none (0 : Nat) (0 : Nat)), AV.mp (1 : Nat) mn] (55 : Nat)) true) ∧
 some (Blk.mk hn (Cont.cells [AV.v (Value.int IntKind.i64 m), AV.v (Value.int IntKind.i64 (0 : Int)), AV.v (Value.slice none (0 : Nat) (0 : Nat)), AV.mp (1 : Nat) mn] (55 : Nat)) true) = some (Blk.mk hn (Cont.cells [AV.v (Value.int IntKind.i64 m), AV.v (Value.int IntKind.i64 (0 : Int)), AV.v (Value.slice none (0 : Nat) (0 : Nat)), AV.mp (1 : Nat) mn] (55 : Nat)) true) ∧
 some (Blk.mk hn (Cont.cells [AV.v (Value.int IntKind.i64 m), AV.v (Value.int IntKind.i64 (0 : Int)), AV.v (Value.slice none (0 : Nat) (0 : Nat)), AV.mp (1 : Nat) mn] (55 : Nat)) true) = some (Blk.mk hn (Cont.cells [AV.v (Value.int IntKind.i64 m), AV.v (Value.int IntKind.i64 (0 : Int)), AV.v (Value.slice none (0 : Nat) (0 : Nat)), AV.mp (1 : Nat) mn] (55 : Nat)) true) ∧
 hn = hn ∧
 hn = hn ∧
 hn = hn ∧
 mn = mn ∧
 ∀ (n5 : Nat),
 (∃ (x_1 : List Nat),
 (x_1.Nodup ∧ ∀ (b : Nat), b ∈ x_1 → b ∈ List.map (fun (x : (ByteArray × Int) × Nat) => x.snd) es) ∧
 ((AV.ptr (0 : Nat) hn (0 : Nat)).den = (AV.ptr (0 : Nat) hn (0 : Nat)).den ∧ (AV.v (Value.int IntKind.i64 (if IntKind.i64.wrap ((1 : Int) - m) > (0 : Int) then IntKind.i64.wrap ((1 : Int) - m) else (0 : Int)))).den = (AV.v (Value.int IntKind.i64 (if IntKind.i64.wrap ((1 : Int) - m) > (0 : Int) then IntKind.i64.wrap ((1 : Int) - m) else (0 : Int)))).den ∧ (AV.v (Value.int IntKind.i64 (0 : Int))).den = (AV.v (Value.int IntKind.i64 (0 : Int))).den ∧ (AV.ptr (4 : Nat) n5 (0 : Nat)).den = (AV.ptr (4 : Nat) n5 (0 : Nat)).den ∧ True) ∧
 LeH
 [Blk.mk hn (Cont.cells [AV.v (Value.int IntKind.i64 m), AV.v (Value.int IntKind.i64 (0 : Int)), AV.v (Value.slice none (0 : Nat) (0 : Nat)), AV.mp (1 : Nat) mn] (55 : Nat)) true, Blk.mk mn (Cont.mape (ByteArray × Int) kyM vlM mkM es clock) true, Blk.mk n1 (Cont.cells [AV.v (Value.int IntKind.i64 x)] (3 : Nat)) true,
 Blk.mk n2
 (Cont.rows n3
 [Col.ints IntKind.i64 fun (i : Nat) =>
 if i < (0 : Nat) then (0 : Int)
 else
 if i < (1 : Nat) then
 match asI IntKind.i64 ((nth [AV.v (Value.int IntKind.i64 x)] (((0 : Nat) + (i - (0 : Nat))) * (1 : Nat) + nat_lit 0)).getD (AV.v undef)) with
 | some x => x
 | none => (0 : Int)
 else (0 : Int)]
 (3 : Nat))
 true,
 Blk.mk n5 (Cont.itere (1 : Nat) mn clock []) true]
 [Blk.mk hn (Cont.cells [AV.v (Value.int IntKind.i64 m), AV.v (Value.int IntKind.i64 (0 : Int)), AV.v (Value.slice none (0 : Nat) (0 : Nat)), AV.mp (1 : Nat) mn] (55 : Nat)) true, Blk.mk mn (Cont.mape (ByteArray × Int) kyM vlM mkM (kf (if IntKind.i64.wrap ((1 : Int) - m) > (0 : Int) then IntKind.i64.wrap ((1 : Int) - m) else (0 : Int)) (0 : Int) x_1 es) clock) true, Blk.mk n1 (Cont.cells [AV.v (Value.int IntKind.i64 x)] (3 : Nat)) true,
 Blk.mk n2
 (Cont.rows n3
 [Col.ints IntKind.i64 fun (i : Nat) =>
 if i < (0 : Nat) then (0 : Int)
 else
 if i < (1 : Nat) then
 match asI IntKind.i64 ((nth [AV.v (Value.int IntKind.i64 x)] (((0 : Nat) + (i - (0 : Nat))) * (1 : Nat) + nat_lit 0)).getD (AV.v undef)) with
 | some x => x
 | none => (0 : Int)
 else (0 : Int)]
 (3 : Nat))
 true,
 Blk.mk n5 (Cont.itere (1 : Nat) mn clock x_1) true]) ∧
 ∀ (x_1 : List Nat),
 (x_1.Nodup ∧ ∀ (b : Nat), b ∈ x_1 → b ∈ List.map (fun (x : (ByteArray × Int) × Nat) => x.snd) es) →
 n5 = n5 ∧
 mn = mn ∧
 clock = clock ∧
 (∀ (a : ByteArray × Int) (n9 : Nat),
 (a, n9) ∈ kf (if IntKind.i64.wrap ((1 : Int) - m) > (0 : Int) then IntKind.i64.wrap ((1 : Int) - m) else (0 : Int)) (0 : Int) x_1 es →
 ¬n9 ∈ x_1 →
 n5 = n5 ∧
 mn = mn ∧
 clock = clock ∧
 (∃ (a : ByteArray × Int), List.Mem (a, n9) (kf (if IntKind.i64.wrap ((1 : Int) - m) > (0 : Int) then IntKind.i64.wrap ((1 : Int) - m) else (0 : Int)) (0 : Int) x_1 es)) ∧
 ∀ (a : ByteArray × Int),
 (a, n9) ∈ kf (if IntKind.i64.wrap ((1 : Int) - m) > (0 : Int) then IntKind.i64.wrap ((1 : Int) - m) else (0 : Int)) (0 : Int) x_1 es →
 br (decide (a.snd < if IntKind.i64.wrap ((1 : Int) - m) > (0 : Int) then IntKind.i64.wrap ((1 : Int) - m) else (0 : Int)))
 (hn = hn ∧
 mn = mn ∧
 (∀ (a_2 : ByteArray × Int) (n15 : Nat),
 (a_2, n15) ∈ kf (if IntKind.i64.wrap ((1 : Int) - m) > (0 : Int) then IntKind.i64.wrap ((1 : Int) - m) else (0 : Int)) (0 : Int) x_1 es →
 br (eqS a.fst a_2.fst)
 (∃ (x' : List Nat),
 (x'.Nodup ∧ ∀ (b : Nat), b ∈ x' → b ∈ List.map (fun (x : (ByteArray × Int) × Nat) => x.snd) es) ∧
 List.length es - x'.length < List.length es - x_1.length ∧
 ((AV.ptr (0 : Nat) hn (0 : Nat)).den = (AV.ptr (0 : Nat) hn (0 : Nat)).den ∧ (AV.v (Value.int IntKind.i64 (if IntKind.i64.wrap ((1 : Int) - m) > (0 : Int) then IntKind.i64.wrap ((1 : Int) - m) else (0 : Int)))).den = (AV.v (Value.int IntKind.i64 (if IntKind.i64.wrap ((1 : Int) - m) > (0 : Int) then IntKind.i64.wrap ((1 : Int) - m) else (0 : Int)))).den ∧ (AV.v (Value.int IntKind.i64 (0 : Int))).den = (AV.v (Value.int IntKind.i64 (0 : Int))).den ∧ (AV.ptr (4 : Nat) n5 (0 : Nat)).den = (AV.ptr (4 : Nat) n5 (0 : Nat)).den ∧ True) ∧
 LeH
 [Blk.mk hn (Cont.cells [AV.v (Value.int IntKind.i64 m), AV.v (Value.int IntKind.i64 (0 : Int)), AV.v (Value.slice none (0 : Nat) (0 : Nat)), AV.mp (1 : Nat) mn] (55 : Nat)) true, Blk.mk mn (Cont.mape (ByteArray × Int) kyM vlM mkM (dropE (kf (if IntKind.i64.wrap ((1 : Int) - m) > (0 : Int) then IntKind.i64.wrap ((1 : Int) - m) else (0 : Int)) (0 : Int) x_1 es) n15) clock) true, Blk.mk n1 (Cont.cells [AV.v (Value.int IntKind.i64 x)] (3 : Nat)) true,
 Blk.mk n2
 (Cont.rows n3
 [Col.ints IntKind.i64 fun (i : Nat) =>
 if i < (0 : Nat) then (0 : Int)
 else
 if i < (1 : Nat) then
 match asI IntKind.i64 ((nth [AV.v (Value.int IntKind.i64 x)] (((0 : Nat) + (i - (0 : Nat))) * (1 : Nat) + nat_lit 0)).getD (AV.v undef)) with
 | some x => x
 | none => (0 : Int)
 else (0 : Int)]
 (3 : Nat))
 true,
 Blk.mk n5 (Cont.itere (1 : Nat) mn clock (n9 :: x_1)) true]
 [Blk.mk hn (Cont.cells [AV.v (Value.int IntKind.i64 m), AV.v (Value.int IntKind.i64 (0 : Int)), AV.v (Value.slice none (0 : Nat) (0 : Nat)), AV.mp (1 : Nat) mn] (55 : Nat)) true, Blk.mk mn (Cont.mape (ByteArray × Int) kyM vlM mkM (kf (if IntKind.i64.wrap ((1 : Int) - m) > (0 : Int) then IntKind.i64.wrap ((1 : Int) - m) else (0 : Int)) (0 : Int) x' es) clock) true, Blk.mk n1 (Cont.cells [AV.v (Value.int IntKind.i64 x)] (3 : Nat)) true,
 Blk.mk n2
 (Cont.rows n3
 [Col.ints IntKind.i64 fun (i : Nat) =>
 if i < (0 : Nat) then (0 : Int)
 else
 if i < (1 : Nat) then
 match asI IntKind.i64 ((nth [AV.v (Value.int IntKind.i64 x)] (((0 : Nat) + (i - (0 : Nat))) * (1 : Nat) + nat_lit 0)).getD (AV.v undef)) with
 | some x => x
 | none => (0 : Int)
 else (0 : Int)]
 (3 : Nat))
 true,
 Blk.mk n5 (Cont.itere (1 : Nat) mn clock x') true])
 True) ∧
 ((∀ (a_2 : ByteArray × Int) (b : Nat), (a_2, b) ∈ kf (if IntKind.i64.wrap ((1 : Int) - m) > (0 : Int) then IntKind.i64.wrap ((1 : Int) - m) else (0 : Int)) (0 : Int) x_1 es → eqS a.fst a_2.fst = false) →
 ∃ (x' : List Nat),
 (x'.Nodup ∧ ∀ (b : Nat), b ∈ x' → b ∈ List.map (fun (x : (ByteArray × Int) × Nat) => x.snd) es) ∧
 List.length es - x'.length < List.length es - x_1.length ∧
 ((AV.ptr (0 : Nat) hn (0 : Nat)).den = (AV.ptr (0 : Nat) hn (0 : Nat)).den ∧ (AV.v (Value.int IntKind.i64 (if IntKind.i64.wrap ((1 : Int) - m) > (0 : Int) then IntKind.i64.wrap ((1 : Int) - m) else (0 : Int)))).den = (AV.v (Value.int IntKind.i64 (if IntKind.i64.wrap ((1 : Int) - m) > (0 : Int) then IntKind.i64.wrap ((1 : Int) - m) else (0 : Int)))).den ∧ (AV.v (Value.int IntKind.i64 (0 : Int))).den = (AV.v (Value.int IntKind.i64 (0 : Int))).den ∧ (AV.ptr (4 : Nat) n5 (0 : Nat)).den = (AV.ptr (4 : Nat) n5 (0 : Nat)).den ∧ True) ∧
 LeH
 [Blk.mk hn (Cont.cells [AV.v (Value.int IntKind.i64 m), AV.v (Value.int IntKind.i64 (0 : Int)), AV.v (Value.slice none (0 : Nat) (0 : Nat)), AV.mp (1 : Nat) mn] (55 : Nat)) true, Blk.mk mn (Cont.mape (ByteArray × Int) kyM vlM mkM (kf (if IntKind.i64.wrap ((1 : Int) - m) > (0 : Int) then IntKind.i64.wrap ((1 : Int) - m) else (0 : Int)) (0 : Int) x_1 es) clock) true, Blk.mk n1 (Cont.cells [AV.v (Value.int IntKind.i64 x)] (3 : Nat)) true,
 Blk.mk n2
 (Cont.rows n3
 [Col.ints IntKind.i64 fun (i : Nat) =>
 if i < (0 : Nat) then (0 : Int)
 else
 if i < (1 : Nat) then
 match asI IntKind.i64 ((nth [AV.v (Value.int IntKind.i64 x)] (((0 : Nat) + (i - (0 : Nat))) * (1 : Nat) + nat_lit 0)).getD (AV.v undef)) with
 | some x => x
 | none => (0 : Int)
 else (0 : Int)]
 (3 : Nat))
 true,
 Blk.mk n5 (Cont.itere (1 : Nat) mn clock (n9 :: x_1)) true]
 [Blk.mk hn (Cont.cells [AV.v (Value.int IntKind.i64 m), AV.v (Value.int IntKind.i64 (0 : Int)), AV.v (Value.slice none (0 : Nat) (0 : Nat)), AV.mp (1 : Nat) mn] (55 : Nat)) true, Blk.mk mn (Cont.mape (ByteArray × Int) kyM vlM mkM (kf (if IntKind.i64.wrap ((1 : Int) - m) > (0 : Int) then IntKind.i64.wrap ((1 : Int) - m) else (0 : Int)) (0 : Int) x' es) clock) true, Blk.mk n1 (Cont.cells [AV.v (Value.int IntKind.i64 x)] (3 : Nat)) true,
 Blk.mk n2
 (Cont.rows n3
 [Col.ints IntKind.i64 fun (i : Nat) =>
 if i < (0 : Nat) then (0 : Int)
 else
 if i < (1 : Nat) then
 match asI IntKind.i64 ((nth [AV.v (Value.int IntKind.i64 x)] (((0 : Nat) + (i - (0 : Nat))) * (1 : Nat) + nat_lit 0)).getD (AV.v undef)) with
 | some x => x
 | none => (0 : Int)
 else (0 : Int)]
 (3 : Nat))
 true,
 Blk.mk n5 (Cont.itere (1 : Nat) mn clock x') true]))
 (br (decide (a.snd > (0 : Int)))
 (hn = hn ∧
 mn = mn ∧
 (∀ (a_2 : ByteArray × Int) (n15 : Nat),
 (a_2, n15) ∈ kf (if IntKind.i64.wrap ((1 : Int) - m) > (0 : Int) then IntKind.i64.wrap ((1 : Int) - m) else (0 : Int)) (0 : Int) x_1 es →
 br (eqS a.fst a_2.fst)
 (∃ (x' : List Nat),
 (x'.Nodup ∧ ∀ (b : Nat), b ∈ x' → b ∈ List.map (fun (x : (ByteArray × Int) × Nat) => x.snd) es) ∧
 List.length es - x'.length < List.length es - x_1.length ∧
 ((AV.ptr (0 : Nat) hn (0 : Nat)).den = (AV.ptr (0 : Nat) hn (0 : Nat)).den ∧ (AV.v (Value.int IntKind.i64 (if IntKind.i64.wrap ((1 : Int) - m) > (0 : Int) then IntKind.i64.wrap ((1 : Int) - m) else (0 : Int)))).den = (AV.v (Value.int IntKind.i64 (if IntKind.i64.wrap ((1 : Int) - m) > (0 : Int) then IntKind.i64.wrap ((1 : Int) - m) else (0 : Int)))).den ∧ (AV.v (Value.int IntKind.i64 (0 : Int))).den = (AV.v (Value.int IntKind.i64 (0 : Int))).den ∧ (AV.ptr (4 : Nat) n5 (0 : Nat)).den = (AV.ptr (4 : Nat) n5 (0 : Nat)).den ∧ True) ∧
 LeH
 [Blk.mk hn (Cont.cells [AV.v (Value.int IntKind.i64 m), AV.v (Value.int IntKind.i64 (0 : Int)), AV.v (Value.slice none (0 : Nat) (0 : Nat)), AV.mp (1 : Nat) mn] (55 : Nat)) true, Blk.mk mn (Cont.mape (ByteArray × Int) kyM vlM mkM (dropE (kf (if IntKind.i64.wrap ((1 : Int) - m) > (0 : Int) then IntKind.i64.wrap ((1 : Int) - m) else (0 : Int)) (0 : Int) x_1 es) n15) clock) true, Blk.mk n1 (Cont.cells [AV.v (Value.int IntKind.i64 x)] (3 : Nat)) true,
 Blk.mk n2
 (Cont.rows n3
 [Col.ints IntKind.i64 fun (i : Nat) =>
 if i < (0 : Nat) then (0 : Int)
 else
 if i < (1 : Nat) then
 match asI IntKind.i64 ((nth [AV.v (Value.int IntKind.i64 x)] (((0 : Nat) + (i - (0 : Nat))) * (1 : Nat) + nat_lit 0)).getD (AV.v undef)) with
 | some x => x
 | none => (0 : Int)
 else (0 : Int)]
 (3 : Nat))
 true,
 Blk.mk n5 (Cont.itere (1 : Nat) mn clock (n9 :: x_1)) true]
 [Blk.mk hn (Cont.cells [AV.v (Value.int IntKind.i64 m), AV.v (Value.int IntKind.i64 (0 : Int)), AV.v (Value.slice none (0 : Nat) (0 : Nat)), AV.mp (1 : Nat) mn] (55 : Nat)) true, Blk.mk mn (Cont.mape (ByteArray × Int) kyM vlM mkM (kf (if IntKind.i64.wrap ((1 : Int) - m) > (0 : Int) then IntKind.i64.wrap ((1 : Int) - m) else (0 : Int)) (0 : Int) x' es) clock) true, Blk.mk n1 (Cont.cells [AV.v (Value.int IntKind.i64 x)] (3 : Nat)) true,
 Blk.mk n2
 (Cont.rows n3
 [Col.ints IntKind.i64 fun (i : Nat) =>
 if i < (0 : Nat) then (0 : Int)
 else
 if i < (1 : Nat) then
 match asI IntKind.i64 ((nth [AV.v (Value.int IntKind.i64 x)] (((0 : Nat) + (i - (0 : Nat))) * (1 : Nat) + nat_lit 0)).getD (AV.v undef)) with
 | some x => x
 | none => (0 : Int)
 else (0 : Int)]
 (3 : Nat))
 true,
 Blk.mk n5 (Cont.itere (1 : Nat) mn clock x') true])
 True) ∧
 ((∀ (a_2 : ByteArray × Int) (b : Nat), (a_2, b) ∈ kf (if IntKind.i64.wrap ((1 : Int) - m) > (0 : Int) then IntKind.i64.wrap ((1 : Int) - m) else (0 : Int)) (0 : Int) x_1 es → eqS a.fst a_2.fst = false) →
 ∃ (x' : List Nat),
 (x'.Nodup ∧ ∀ (b : Nat), b ∈ x' → b ∈ List.map (fun (x : (ByteArray × Int) × Nat) => x.snd) es) ∧
 List.length es - x'.length < List.length es - x_1.length ∧
 ((AV.ptr (0 : Nat) hn (0 : Nat)).den = (AV.ptr (0 : Nat) hn (0 : Nat)).den ∧ (AV.v (Value.int IntKind.i64 (if IntKind.i64.wrap ((1 : Int) - m) > (0 : Int) then IntKind.i64.wrap ((1 : Int) - m) else (0 : Int)))).den = (AV.v (Value.int IntKind.i64 (if IntKind.i64.wrap ((1 : Int) - m) > (0 : Int) then IntKind.i64.wrap ((1 : Int) - m) else (0 : Int)))).den ∧ (AV.v (Value.int IntKind.i64 (0 : Int))).den = (AV.v (Value.int IntKind.i64 (0 : Int))).den ∧ (AV.ptr (4 : Nat) n5 (0 : Nat)).den = (AV.ptr (4 : Nat) n5 (0 : Nat)).den ∧ True) ∧
 LeH
 [Blk.mk hn (Cont.cells [AV.v (Value.int IntKind.i64 m), AV.v (Value.int IntKind.i64 (0 : Int)), AV.v (Value.slice none (0 : Nat) (0 : Nat)), AV.mp (1 : Nat) mn] (55 : Nat)) true, Blk.mk mn (Cont.mape (ByteArray × Int) kyM vlM mkM (kf (if IntKind.i64.wrap ((1 : Int) - m) > (0 : Int) then IntKind.i64.wrap ((1 : Int) - m) else (0 : Int)) (0 : Int) x_1 es) clock) true, Blk.mk n1 (Cont.cells [AV.v (Value.int IntKind.i64 x)] (3 : Nat)) true,
 Blk.mk n2
 (Cont.rows n3
 [Col.ints IntKind.i64 fun (i : Nat) =>
 if i < (0 : Nat) then (0 : Int)
 else
 if i < (1 : Nat) then
 match asI IntKind.i64 ((nth [AV.v (Value.int IntKind.i64 x)] (((0 : Nat) + (i - (0 : Nat))) * (1 : Nat) + nat_lit 0)).getD (AV.v undef)) with
 | some x => x
 | none => (0 : Int)
 else (0 : Int)]
 (3 : Nat))
 true,
 Blk.mk n5 (Cont.itere (1 : Nat) mn clock (n9 :: x_1)) true]
 [Blk.mk hn (Cont.cells [AV.v (Value.int IntKind.i64 m), AV.v (Value.int IntKind.i64 (0 : Int)), AV.v (Value.slice none (0 : Nat) (0 : Nat)), AV.mp (1 : Nat) mn] (55 : Nat)) true, Blk.mk mn (Cont.mape (ByteArray × Int) kyM vlM mkM (kf (if IntKind.i64.wrap ((1 : Int) - m) > (0 : Int) then IntKind.i64.wrap ((1 : Int) - m) else (0 : Int)) (0 : Int) x' es) clock) true, Blk.mk n1 (Cont.cells [AV.v (Value.int IntKind.i64 x)] (3 : Nat)) true,
 Blk.mk n2
 (Cont.rows n3
 [Col.ints IntKind.i64 fun (i : Nat) =>
 if i < (0 : Nat) then (0 : Int)
 else
 if i < (1 : Nat) then
 match asI IntKind.i64 ((nth [AV.v (Value.int IntKind.i64 x)] (((0 : Nat) + (i - (0 : Nat))) * (1 : Nat) + nat_lit 0)).getD (AV.v undef)) with
 | some x => x
 | none => (0 : Int)
 else (0 : Int)]
 (3 : Nat))
 true,
 Blk.mk n5 (Cont.itere (1 : Nat) mn clock x') true]))
 (hn = hn ∧
 mn = mn ∧
 (∀ (a_2 : ByteArray × Int) (n15 : Nat),
 (a_2, n15) ∈ kf (if IntKind.i64.wrap ((1 : Int) - m) > (0 : Int) then IntKind.i64.wrap ((1 : Int) - m) else (0 : Int)) (0 : Int) x_1 es →
 br (eqS a.fst a_2.fst)
 (∃ (x' : List Nat),
 (x'.Nodup ∧ ∀ (b : Nat), b ∈ x' → b ∈ List.map (fun (x : (ByteArray × Int) × Nat) => x.snd) es) ∧
 List.length es - x'.length < List.length es - x_1.length ∧
 ((AV.ptr (0 : Nat) hn (0 : Nat)).den = (AV.ptr (0 : Nat) hn (0 : Nat)).den ∧ (AV.v (Value.int IntKind.i64 (if IntKind.i64.wrap ((1 : Int) - m) > (0 : Int) then IntKind.i64.wrap ((1 : Int) - m) else (0 : Int)))).den = (AV.v (Value.int IntKind.i64 (if IntKind.i64.wrap ((1 : Int) - m) > (0 : Int) then IntKind.i64.wrap ((1 : Int) - m) else (0 : Int)))).den ∧ (AV.v (Value.int IntKind.i64 (0 : Int))).den = (AV.v (Value.int IntKind.i64 (0 : Int))).den ∧ (AV.ptr (4 : Nat) n5 (0 : Nat)).den = (AV.ptr (4 : Nat) n5 (0 : Nat)).den ∧ True) ∧
 LeH
 [Blk.mk hn (Cont.cells [AV.v (Value.int IntKind.i64 m), AV.v (Value.int IntKind.i64 (0 : Int)), AV.v (Value.slice none (0 : Nat) (0 : Nat)), AV.mp (1 : Nat) mn] (55 : Nat)) true, Blk.mk mn (Cont.mape (ByteArray × Int) kyM vlM mkM (setE (kf (if IntKind.i64.wrap ((1 : Int) - m) > (0 : Int) then IntKind.i64.wrap ((1 : Int) - m) else (0 : Int)) (0 : Int) x_1 es) n15 (a.fst, IntKind.i64.wrap (a.snd - if IntKind.i64.wrap ((1 : Int) - m) > (0 : Int) then IntKind.i64.wrap ((1 : Int) - m) else (0 : Int)))) clock) true, Blk.mk n1 (Cont.cells [AV.v (Value.int IntKind.i64 x)] (3 : Nat)) true,
 Blk.mk n2
 (Cont.rows n3
 [Col.ints IntKind.i64 fun (i : Nat) =>
 if i < (0 : Nat) then (0 : Int)
 else
 if i < (1 : Nat) then
 match asI IntKind.i64 ((nth [AV.v (Value.int IntKind.i64 x)] (((0 : Nat) + (i - (0 : Nat))) * (1 : Nat) + nat_lit 0)).getD (AV.v undef)) with
 | some x => x
 | none => (0 : Int)
 else (0 : Int)]
 (3 : Nat))
 true,
 Blk.mk n5 (Cont.itere (1 : Nat) mn clock (n9 :: x_1)) true]
 [Blk.mk hn (Cont.cells [AV.v (Value.int IntKind.i64 m), AV.v (Value.int IntKind.i64 (0 : Int)), AV.v (Value.slice none (0 : Nat) (0 : Nat)), AV.mp (1 : Nat) mn] (55 : Nat)) true, Blk.mk mn (Cont.mape (ByteArray × Int) kyM vlM mkM (kf (if IntKind.i64.wrap ((1 : Int) - m) > (0 : Int) then IntKind.i64.wrap ((1 : Int) - m) else (0 : Int)) (0 : Int) x' es) clock) true, Blk.mk n1 (Cont.cells [AV.v (Value.int IntKind.i64 x)] (3 : Nat)) true,
 Blk.mk n2
 (Cont.rows n3
 [Col.ints IntKind.i64 fun (i : Nat) =>
 if i < (0 : Nat) then (0 : Int)
 else
 if i < (1 : Nat) then
 match asI IntKind.i64 ((nth [AV.v (Value.int IntKind.i64 x)] (((0 : Nat) + (i - (0 : Nat))) * (1 : Nat) + nat_lit 0)).getD (AV.v undef)) with
 | some x => x
 | none => (0 : Int)
 else (0 : Int)]
 (3 : Nat))
 true,
 Blk.mk n5 (Cont.itere (1 : Nat) mn clock x') true])
 True) ∧
 ((∀ (a_2 : ByteArray × Int) (b : Nat), (a_2, b) ∈ kf (if IntKind.i64.wrap ((1 : Int) - m) > (0 : Int) then IntKind.i64.wrap ((1 : Int) - m) else (0 : Int)) (0 : Int) x_1 es → eqS a.fst a_2.fst = false) →
 ∃ (x' : List Nat),
 (x'.Nodup ∧ ∀ (b : Nat), b ∈ x' → b ∈ List.map (fun (x : (ByteArray × Int) × Nat) => x.snd) es) ∧
 List.length es - x'.length < List.length es - x_1.length ∧
 ((AV.ptr (0 : Nat) hn (0 : Nat)).den = (AV.ptr (0 : Nat) hn (0 : Nat)).den ∧ (AV.v (Value.int IntKind.i64 (if IntKind.i64.wrap ((1 : Int) - m) > (0 : Int) then IntKind.i64.wrap ((1 : Int) - m) else (0 : Int)))).den = (AV.v (Value.int IntKind.i64 (if IntKind.i64.wrap ((1 : Int) - m) > (0 : Int) then IntKind.i64.wrap ((1 : Int) - m) else (0 : Int)))).den ∧ (AV.v (Value.int IntKind.i64 (0 : Int))).den = (AV.v (Value.int IntKind.i64 (0 : Int))).den ∧ (AV.ptr (4 : Nat) n5 (0 : Nat)).den = (AV.ptr (4 : Nat) n5 (0 : Nat)).den ∧ True) ∧
 LeH
 [Blk.mk hn (Cont.cells [AV.v (Value.int IntKind.i64 m), AV.v (Value.int IntKind.i64 (0 : Int)), AV.v (Value.slice none (0 : Nat) (0 : Nat)), AV.mp (1 : Nat) mn] (55 : Nat)) true, Blk.mk mn (Cont.mape (ByteArray × Int) kyM vlM mkM (kf (if IntKind.i64.wrap ((1 : Int) - m) > (0 : Int) then IntKind.i64.wrap ((1 : Int) - m) else (0 : Int)) (0 : Int) x_1 es ++ [((a.fst, IntKind.i64.wrap (a.snd - if IntKind.i64.wrap ((1 : Int) - m) > (0 : Int) then IntKind.i64.wrap ((1 : Int) - m) else (0 : Int))), clock)]) (clock + (1 : Nat))) true, Blk.mk n1 (Cont.cells [AV.v (Value.int IntKind.i64 x)] (3 : Nat)) true,
 Blk.mk n2
 (Cont.rows n3
 [Col.ints IntKind.i64 fun (i : Nat) =>
 if i < (0 : Nat) then (0 : Int)
 else
 if i < (1 : Nat) then
 match asI IntKind.i64 ((nth [AV.v (Value.int IntKind.i64 x)] (((0 : Nat) + (i - (0 : Nat))) * (1 : Nat) + nat_lit 0)).getD (AV.v undef)) with
 | some x => x
 | none => (0 : Int)
 else (0 : Int)]
 (3 : Nat))
 true,
 Blk.mk n5 (Cont.itere (1 : Nat) mn clock (n9 :: x_1)) true]
 [Blk.mk hn (Cont.cells [AV.v (Value.int IntKind.i64 m), AV.v (Value.int IntKind.i64 (0 : Int)), AV.v (Value.slice none (0 : Nat) (0 : Nat)), AV.mp (1 : Nat) mn] (55 : Nat)) true, Blk.mk mn (Cont.mape (ByteArray × Int) kyM vlM mkM (kf (if IntKind.i64.wrap ((1 : Int) - m) > (0 : Int) then IntKind.i64.wrap ((1 : Int) - m) else (0 : Int)) (0 : Int) x' es) clock) true, Blk.mk n1 (Cont.cells [AV.v (Value.int IntKind.i64 x)] (3 : Nat)) true,
 Blk.mk n2
 (Cont.rows n3
 [Col.ints IntKind.i64 fun (i : Nat) =>
 if i < (0 : Nat) then (0 : Int)
 else
 if i < (1 : Nat) then
 match asI IntKind.i64 ((nth [AV.v (Value.int IntKind.i64 x)] (((0 : Nat) + (i - (0 : Nat))) * (1 : Nat) + nat_lit 0)).getD (AV.v undef)) with
 | some x => x
 | none => (0 : Int)
 else (0 : Int)]
 (3 : Nat))
 true,
 Blk.mk n5 (Cont.itere (1 : Nat) mn clock x') true])))) ∧
 ((∀ (a : ByteArray × Int) (b : Nat), (a, b) ∈ kf (if IntKind.i64.wrap ((1 : Int) - m) > (0 : Int) then IntKind.i64.wrap ((1 : Int) - m) else (0 : Int)) (0 : Int) x_1 es → b ∈ x_1) →
 (((0 : Int) ≤ if IntKind.i64.wrap ((1 : Int) - m) > (0 : Int) then IntKind.i64.wrap ((1 : Int) - m) else (0 : Int)) ∧ (if IntKind.i64.wrap ((1 : Int) - m) > (0 : Int) then IntKind.i64.wrap ((1 : Int) - m) else (0 : Int)) ≤ (1 : Int)) ∧
 (1 : Nat) ≤ n3 ∧
 hn = hn ∧
 hn = hn ∧
 hn = hn ∧
 R (AV.v (Value.int IntKind.i64 (0 : Int)))
 [Blk.mk hn (Cont.cells [AV.v (Value.int IntKind.i64 m), AV.v (Value.int IntKind.i64 (↑((1 : Nat) - (if IntKind.i64.wrap ((1 : Int) - m) > (0 : Int) then IntKind.i64.wrap ((1 : Int) - m) else (0 : Int)).toNat) : Int)), AV.sl (3 : Nat) n2 (offB n3 (if IntKind.i64.wrap ((1 : Int) - m) > (0 : Int) then IntKind.i64.wrap ((1 : Int) - m) else (0 : Int)).toNat (1 : Nat) (0 : Nat)) (1 : Nat) ((1 : Nat) - (if IntKind.i64.wrap ((1 : Int) - m) > (0 : Int) then IntKind.i64.wrap ((1 : Int) - m) else (0 : Int)).toNat) (n3 - (if IntKind.i64.wrap ((1 : Int) - m) > (0 : Int) then IntKind.i64.wrap ((1 : Int) - m) else (0 : Int)).toNat), AV.mp (1 : Nat) mn] (55 : Nat)) true, Blk.mk mn (Cont.mape (ByteArray × Int) kyM vlM mkM (kf (if IntKind.i64.wrap ((1 : Int) - m) > (0 : Int) then IntKind.i64.wrap ((1 : Int) - m) else (0 : Int)) (0 : Int) x_1 es) clock) true, Blk.mk n1 (Cont.cells [AV.v (Value.int IntKind.i64 x)] (3 : Nat)) true,
 Blk.mk n2
 (Cont.rows n3
 [Col.ints IntKind.i64 fun (i : Nat) =>
 if i < (0 : Nat) then (0 : Int)
 else
 if i < (1 : Nat) then
 match asI IntKind.i64 ((nth [AV.v (Value.int IntKind.i64 x)] (((0 : Nat) + (i - (0 : Nat))) * (1 : Nat) + nat_lit 0)).getD (AV.v undef)) with
 | some x => x
 | none => (0 : Int)
 else (0 : Int)]
 (3 : Nat))
 true,
 Blk.mk n5 (Cont.itere (1 : Nat) mn clock x_1) true]))) : LC Try.prog 13 [.ptr 0 hn 0, .v (.int .i64 x)] [⟨hn, .cells [.v (.int .i64 m), .v (.int .i64 0), .v (.slice none 0 0), .mp 1 mn] 55, true⟩, ⟨mn, .mape (ByteArray × Int) kyM vlM mkM es clock, true⟩] R :=
  lc_of_exec (tbl := (tbE es)) tab_ok (tbE_ok es) mixed noinv 2 _ Try.func13 rfl Try.ntmps13 (by decide) (by kernel_rfl) (Nat.le_of_ble_eq_true rfl) (@Eq.mpr (execN tab (tbE es) noinv 2 Try.f13.ntmps [] none 0 (body Try.f13) (argsT [.ptr 0 hn 0, .v (.int .i64 x)] 0) [⟨hn, .cells [.v (.int .i64 m), .v (.int .i64 0), .v (.slice none 0 0), .mp 1 mn] 55, true⟩, ⟨mn, .mape (ByteArray × Int) kyM vlM mkM es clock, true⟩] (post Try.f13 tab (retK R))) _ (by kernel_rfl) h)



set_option maxRecDepth 100000 in
theorem push1_vc (hn mn an : Nat) (m at_ : Int) (es : MK) (clock : Nat) (x : Int) (r len cap N : Nat) (g : Nat → Int) {R : AV → HH → Prop} (h : (hn = hn ∧
 hn = hn ∧
 hn = hn ∧
 hn = hn ∧
 ((0 : Int) ≤ at_ ∧ at_ ≤ (↑cap : Int)) ∧
 ((0 : Int) ≤ at_ ∧ at_ ≤ at_) ∧
 ∀ (n1 : Nat),
 n1 = n1 ∧
 an = an ∧
 r + (at_.toNat - (0 : Nat)) ≤ N ∧
 br ((at_.toNat - (0 : Nat) + (1 : Nat)).ble (at_.toNat - (0 : Nat)))
 (r + (at_.toNat - (0 : Nat)) + (1 : Nat) ≤ N ∧
 some (Blk.mk hn (Cont.cells [AV.v (Value.int IntKind.i64 m), AV.v (Value.int IntKind.i64 at_), AV.sl (2 : Nat) an r (1 : Nat) len cap, AV.mp (1 : Nat) mn] (55 : Nat)) true) = some (Blk.mk hn (Cont.cells [AV.v (Value.int IntKind.i64 m), AV.v (Value.int IntKind.i64 at_), AV.sl (2 : Nat) an r (1 : Nat) len cap, AV.mp (1 : Nat) mn] (55 : Nat)) true) ∧
 some (Blk.mk hn (Cont.cells [AV.v (Value.int IntKind.i64 m), AV.v (Value.int IntKind.i64 at_), AV.sl (2 : Nat) an r (1 : Nat) len cap, AV.mp (1 : Nat) mn] (55 : Nat)) true) = some (Blk.mk hn (Cont.cells [AV.v (Value.int IntKind.i64 m), AV.v (Value.int IntKind.i64 at_), AV.sl (2 : Nat) an r (1 : Nat) len cap, AV.mp (1 : Nat) mn] (55 : Nat)) true) ∧
 some (Blk.mk hn (Cont.cells [AV.v (Value.int IntKind.i64 m), AV.v (Value.int IntKind.i64 at_), AV.sl (2 : Nat) an r (1 : Nat) len cap, AV.mp (1 : Nat) mn] (55 : Nat)) true) = some (Blk.mk hn (Cont.cells [AV.v (Value.int IntKind.i64 m), AV.v (Value.int IntKind.i64 at_), AV.sl (2 : Nat) an r (1 : Nat) len cap, AV.mp (1 : Nat) mn] (55 : Nat)) true) ∧
 hn = hn ∧
 hn = hn ∧
 hn = hn ∧
 mn = mn ∧
 ∀ (n2 : Nat),
 (∃ (x_1 : List Nat),
 (x_1.Nodup ∧ ∀ (b : Nat), b ∈ x_1 → b ∈ List.map (fun (x : (ByteArray × Int) × Nat) => x.snd) es) ∧
 ((AV.ptr (0 : Nat) hn (0 : Nat)).den = (AV.ptr (0 : Nat) hn (0 : Nat)).den ∧ (AV.v (Value.int IntKind.i64 (if IntKind.i64.wrap ((↑(at_.toNat - (0 : Nat) + (1 : Nat)) : Int) - m) > (0 : Int) then IntKind.i64.wrap ((↑(at_.toNat - (0 : Nat) + (1 : Nat)) : Int) - m) else (0 : Int)))).den = (AV.v (Value.int IntKind.i64 (if IntKind.i64.wrap ((↑(at_.toNat - (0 : Nat) + (1 : Nat)) : Int) - m) > (0 : Int) then IntKind.i64.wrap ((↑(at_.toNat - (0 : Nat) + (1 : Nat)) : Int) - m) else (0 : Int)))).den ∧ (AV.v (Value.int IntKind.i64 at_)).den = (AV.v (Value.int IntKind.i64 at_)).den ∧ (AV.ptr (4 : Nat) n2 (0 : Nat)).den = (AV.ptr (4 : Nat) n2 (0 : Nat)).den ∧ True) ∧
 LeH
 [Blk.mk hn (Cont.cells [AV.v (Value.int IntKind.i64 m), AV.v (Value.int IntKind.i64 at_), AV.sl (2 : Nat) an r (1 : Nat) len cap, AV.mp (1 : Nat) mn] (55 : Nat)) true, Blk.mk mn (Cont.mape (ByteArray × Int) kyM vlM mkM es clock) true,
 Blk.mk an
 (Cont.rows N
 [Col.ints IntKind.i64 fun (q : Nat) =>
 if r + (at_.toNat - (0 : Nat)) ≤ q ∧ q < r + (at_.toNat - (0 : Nat)) + (1 : Nat) then
 match asI IntKind.i64 ((nth [AV.v (Value.int IntKind.i64 x)] (((0 : Nat) + (q - (r + (at_.toNat - (0 : Nat))))) * (1 : Nat) + nat_lit 0)).getD (AV.v undef)) with
 | some x => x
 | none => (0 : Int)
 else g q]
 (3 : TypeId))
 true,
 Blk.mk n1 (Cont.cells [AV.v (Value.int IntKind.i64 x)] (3 : Nat)) true, Blk.mk n2 (Cont.itere (1 : Nat) mn clock []) true]
 [Blk.mk hn (Cont.cells [AV.v (Value.int IntKind.i64 m), AV.v (Value.int IntKind.i64 at_), AV.sl (2 : Nat) an r (1 : Nat) len cap, AV.mp (1 : Nat) mn] (55 : Nat)) true, Blk.mk mn (Cont.mape (ByteArray × Int) kyM vlM mkM (kf (if IntKind.i64.wrap ((↑(at_.toNat - (0 : Nat) + (1 : Nat)) : Int) - m) > (0 : Int) then IntKind.i64.wrap ((↑(at_.toNat - (0 : Nat) + (1 : Nat)) : Int) - m) else (0 : Int)) at_ x_1 es) clock) true,
 Blk.mk an
 (Cont.rows N
 [Col.ints IntKind.i64 fun (q : Nat) =>
 if r + (at_.toNat - (0 : Nat)) ≤ q ∧ q < r + (at_.toNat - (0 : Nat)) + (1 : Nat) then
 match asI IntKind.i64 ((nth [AV.v (Value.int IntKind.i64 x)] (((0 : Nat) + (q - (r + (at_.toNat - (0 : Nat))))) * (1 : Nat) + nat_lit 0)).getD (AV.v undef)) with
 | some x => x
 | none => (0 : Int)
 else g q]
 (3 : TypeId))
 true,
 Blk.mk n1 (Cont.cells [AV.v (Value.int IntKind.i64 x)] (3 : Nat)) true, Blk.mk n2 (Cont.itere (1 : Nat) mn clock x_1) true]) ∧
 ∀ (x_1 : List Nat),
 (x_1.Nodup ∧ ∀ (b : Nat), b ∈ x_1 → b ∈ List.map (fun (x : (ByteArray × Int) × Nat) => x.snd) es) →
 n2 = n2 ∧
 mn = mn ∧
 clock = clock ∧
 (∀ (a : ByteArray × Int) (n6 : Nat),
 (a, n6) ∈ kf (if IntKind.i64.wrap ((↑(at_.toNat - (0 : Nat) + (1 : Nat)) : Int) - m) > (0 : Int) then IntKind.i64.wrap ((↑(at_.toNat - (0 : Nat) + (1 : Nat)) : Int) - m) else (0 : Int)) at_ x_1 es →
 ¬n6 ∈ x_1 →
 n2 = n2 ∧
 mn = mn ∧
 clock = clock ∧
 (∃ (a : ByteArray × Int), List.Mem (a, n6) (kf (if IntKind.i64.wrap ((↑(at_.toNat - (0 : Nat) + (1 : Nat)) : Int) - m) > (0 : Int) then IntKind.i64.wrap ((↑(at_.toNat - (0 : Nat) + (1 : Nat)) : Int) - m) else (0 : Int)) at_ x_1 es)) ∧
 ∀ (a : ByteArray × Int),
 (a, n6) ∈ kf (if IntKind.i64.wrap ((↑(at_.toNat - (0 : Nat) + (1 : Nat)) : Int) - m) > (0 : Int) then IntKind.i64.wrap ((↑(at_.toNat - (0 : Nat) + (1 : Nat)) : Int) - m) else (0 : Int)) at_ x_1 es →
 br (decide (a.snd < if IntKind.i64.wrap ((↑(at_.toNat - (0 : Nat) + (1 : Nat)) : Int) - m) > (0 : Int) then IntKind.i64.wrap ((↑(at_.toNat - (0 : Nat) + (1 : Nat)) : Int) - m) else (0 : Int)))
 (hn = hn ∧
 mn = mn ∧
 (∀ (a_2 : ByteArray × Int) (n12 : Nat),
 (a_2, n12) ∈ kf (if IntKind.i64.wrap ((↑(at_.toNat - (0 : Nat) + (1 : Nat)) : Int) - m) > (0 : Int) then IntKind.i64.wrap ((↑(at_.toNat - (0 : Nat) + (1 : Nat)) : Int) - m) else (0 : Int)) at_ x_1 es →
 br (eqS a.fst a_2.fst)
 (∃ (x' : List Nat),
 (x'.Nodup ∧ ∀ (b : Nat), b ∈ x' → b ∈ List.map (fun (x : (ByteArray × Int) × Nat) => x.snd) es) ∧
 List.length es - x'.length < List.length es - x_1.length ∧
 ((AV.ptr (0 : Nat) hn (0 : Nat)).den = (AV.ptr (0 : Nat) hn (0 : Nat)).den ∧ (AV.v (Value.int IntKind.i64 (if IntKind.i64.wrap ((↑(at_.toNat - (0 : Nat) + (1 : Nat)) : Int) - m) > (0 : Int) then IntKind.i64.wrap ((↑(at_.toNat - (0 : Nat) + (1 : Nat)) : Int) - m) else (0 : Int)))).den = (AV.v (Value.int IntKind.i64 (if IntKind.i64.wrap ((↑(at_.toNat - (0 : Nat) + (1 : Nat)) : Int) - m) > (0 : Int) then IntKind.i64.wrap ((↑(at_.toNat - (0 : Nat) + (1 : Nat)) : Int) - m) else (0 : Int)))).den ∧ (AV.v (Value.int IntKind.i64 at_)).den = (AV.v (Value.int IntKind.i64 at_)).den ∧ (AV.ptr (4 : Nat) n2 (0 : Nat)).den = (AV.ptr (4 : Nat) n2 (0 : Nat)).den ∧ True) ∧
 LeH
 [Blk.mk hn (Cont.cells [AV.v (Value.int IntKind.i64 m), AV.v (Value.int IntKind.i64 at_), AV.sl (2 : Nat) an r (1 : Nat) len cap, AV.mp (1 : Nat) mn] (55 : Nat)) true, Blk.mk mn (Cont.mape (ByteArray × Int) kyM vlM mkM (dropE (kf (if IntKind.i64.wrap ((↑(at_.toNat - (0 : Nat) + (1 : Nat)) : Int) - m) > (0 : Int) then IntKind.i64.wrap ((↑(at_.toNat - (0 : Nat) + (1 : Nat)) : Int) - m) else (0 : Int)) at_ x_1 es) n12) clock) true,
 Blk.mk an
 (Cont.rows N
 [Col.ints IntKind.i64 fun (q : Nat) =>
 if r + (at_.toNat - (0 : Nat)) ≤ q ∧ q < r + (at_.toNat - (0 : Nat)) + (1 : Nat) then
 match asI IntKind.i64 ((nth [AV.v (Value.int IntKind.i64 x)] (((0 : Nat) + (q - (r + (at_.toNat - (0 : Nat))))) * (1 : Nat) + nat_lit 0)).getD (AV.v undef)) with
 | some x => x
 | none => (0 : Int)
 else g q]
 (3 : TypeId))
 true,
 Blk.mk n1 (Cont.cells [AV.v (Value.int IntKind.i64 x)] (3 : Nat)) true, Blk.mk n2 (Cont.itere (1 : Nat) mn clock (n6 :: x_1)) true]
 [Blk.mk hn (Cont.cells [AV.v (Value.int IntKind.i64 m), AV.v (Value.int IntKind.i64 at_), AV.sl (2 : Nat) an r (1 : Nat) len cap, AV.mp (1 : Nat) mn] (55 : Nat)) true, Blk.mk mn (Cont.mape (ByteArray × Int) kyM vlM mkM (kf (if IntKind.i64.wrap ((↑(at_.toNat - (0 : Nat) + (1 : Nat)) : Int) - m) > (0 : Int) then IntKind.i64.wrap ((↑(at_.toNat - (0 : Nat) + (1 : Nat)) : Int) - m) else (0 : Int)) at_ x' es) clock) true,
 Blk.mk an
 (Cont.rows N
 [Col.ints IntKind.i64 fun (q : Nat) =>
 if r + (at_.toNat - (0 : Nat)) ≤ q ∧ q < r + (at_.toNat - (0 : Nat)) + (1 : Nat) then
 match asI IntKind.i64 ((nth [AV.v (Value.int IntKind.i64 x)] (((0 : Nat) + (q - (r + (at_.toNat - (0 : Nat))))) * (1 : Nat) + nat_lit 0)).getD (AV.v undef)) with
 | some x => x
 | none => (0 : Int)
 else g q]
 (3 : TypeId))
 true,
 Blk.mk n1 (Cont.cells [AV.v (Value.int IntKind.i64 x)] (3 : Nat)) true, Blk.mk n2 (Cont.itere (1 : Nat) mn clock x') true])
 True) ∧
 ((∀ (a_2 : ByteArray × Int) (b : Nat), (a_2, b) ∈ kf (if IntKind.i64.wrap ((↑(at_.toNat - (0 : Nat) + (1 : Nat)) : Int) - m) > (0 : Int) then IntKind.i64.wrap ((↑(at_.toNat - (0 : Nat) + (1 : Nat)) : Int) - m) else (0 : Int)) at_ x_1 es → eqS a.fst a_2.fst = false) →
 ∃ (x' : List Nat),
 (x'.Nodup ∧ ∀ (b : Nat), b ∈ x' → b ∈ List.map (fun (x : (ByteArray × Int) × Nat) => x.snd) es) ∧
 List.length es - x'.length < List.length es - x_1.length ∧
 ((AV.ptr (0 : Nat) hn (0 : Nat)).den = (AV.ptr (0 : Nat) hn (0 : Nat)).den ∧ (AV.v (Value.int IntKind.i64 (if IntKind.i64.wrap ((↑(at_.toNat - (0 : Nat) + (1 : Nat)) : Int) - m) > (0 : Int) then IntKind.i64.wrap ((↑(at_.toNat - (0 : Nat) + (1 : Nat)) : Int) - m) else (0 : Int)))).den = (AV.v (Value.int IntKind.i64 (if IntKind.i64.wrap ((↑(at_.toNat - (0 : Nat) + (1 : Nat)) : Int) - m) > (0 : Int) then IntKind.i64.wrap ((↑(at_.toNat - (0 : Nat) + (1 : Nat)) : Int) - m) else (0 : Int)))).den ∧ (AV.v (Value.int IntKind.i64 at_)).den = (AV.v (Value.int IntKind.i64 at_)).den ∧ (AV.ptr (4 : Nat) n2 (0 : Nat)).den = (AV.ptr (4 : Nat) n2 (0 : Nat)).den ∧ True) ∧
 LeH
 [Blk.mk hn (Cont.cells [AV.v (Value.int IntKind.i64 m), AV.v (Value.int IntKind.i64 at_), AV.sl (2 : Nat) an r (1 : Nat) len cap, AV.mp (1 : Nat) mn] (55 : Nat)) true, Blk.mk mn (Cont.mape (ByteArray × Int) kyM vlM mkM (kf (if IntKind.i64.wrap ((↑(at_.toNat - (0 : Nat) + (1 : Nat)) : Int) - m) > (0 : Int) then IntKind.i64.wrap ((↑(at_.toNat - (0 : Nat) + (1 : Nat)) : Int) - m) else (0 : Int)) at_ x_1 es) clock) true,
 Blk.mk an
 (Cont.rows N
 [Col.ints IntKind.i64 fun (q : Nat) =>
 if r + (at_.toNat - (0 : Nat)) ≤ q ∧ q < r + (at_.toNat - (0 : Nat)) + (1 : Nat) then
 match asI IntKind.i64 ((nth [AV.v (Value.int IntKind.i64 x)] (((0 : Nat) + (q - (r + (at_.toNat - (0 : Nat))))) * (1 : Nat) + nat_lit 0)).getD (AV.v undef)) with
 | some x => x
 | none => (0 : Int)
 else g q]
 (3 : TypeId))
 true,
 Blk.mk n1 (Cont.cells [AV.v (Value.int IntKind.i64 x)] (3 : Nat)) true, Blk.mk n2 (Cont.itere (1 : Nat) mn clock (n6 :: x_1)) true]
 [Blk.mk hn (Cont.cells [AV.v (Value.int IntKind.i64 m), AV.v (Value.int IntKind.i64 at_), AV.sl (2 : Nat) an r (1 : Nat) len cap, AV.mp (1 : Nat) mn] (55 : Nat)) true, Blk.mk mn (Cont.mape (ByteArray × Int) kyM vlM mkM (kf (if IntKind.i64.wrap ((↑(at_.toNat - (0 : Nat) + (1 : Nat)) : Int) - m) > (0 : Int) then IntKind.i64.wrap ((↑(at_.toNat - (0 : Nat) + (1 : Nat)) : Int) - m) else (0 : Int)) at_ x' es) clock) true,
 Blk.mk an
 (Cont.rows N
 [Col.ints IntKind.i64 fun (q : Nat) =>
 if r + (at_.toNat - (0 : Nat)) ≤ q ∧ q < r + (at_.toNat - (0 : Nat)) + (1 : Nat) then
 match asI IntKind.i64 ((nth [AV.v (Value.int IntKind.i64 x)] (((0 : Nat) + (q - (r + (at_.toNat - (0 : Nat))))) * (1 : Nat) + nat_lit 0)).getD (AV.v undef)) with
 | some x => x
 | none => (0 : Int)
 else g q]
 (3 : TypeId))
 true,
 Blk.mk n1 (Cont.cells [AV.v (Value.int IntKind.i64 x)] (3 : Nat)) true, Blk.mk n2 (Cont.itere (1 : Nat) mn clock x') true]))
 (br (decide (a.snd > at_))
 (hn = hn ∧
 mn = mn ∧
 (∀ (a_2 : ByteArray × Int) (n12 : Nat),
 (a_2, n12) ∈ kf (if IntKind.i64.wrap ((↑(at_.toNat - (0 : Nat) + (1 : Nat)) : Int) - m) > (0 : Int) then IntKind.i64.wrap ((↑(at_.toNat - (0 : Nat) + (1 : Nat)) : Int) - m) else (0 : Int)) at_ x_1 es →
 br (eqS a.fst a_2.fst)
 (∃ (x' : List Nat),
 (x'.Nodup ∧ ∀ (b : Nat), b ∈ x' → b ∈ List.map (fun (x : (ByteArray × Int) × Nat) => x.snd) es) ∧
 List.length es - x'.length < List.length es - x_1.length ∧
 ((AV.ptr (0 : Nat) hn (0 : Nat)).den = (AV.ptr (0 : Nat) hn (0 : Nat)).den ∧ (AV.v (Value.int IntKind.i64 (if IntKind.i64.wrap ((↑(at_.toNat - (0 : Nat) + (1 : Nat)) : Int) - m) > (0 : Int) then IntKind.i64.wrap ((↑(at_.toNat - (0 : Nat) + (1 : Nat)) : Int) - m) else (0 : Int)))).den = (AV.v (Value.int IntKind.i64 (if IntKind.i64.wrap ((↑(at_.toNat - (0 : Nat) + (1 : Nat)) : Int) - m) > (0 : Int) then IntKind.i64.wrap ((↑(at_.toNat - (0 : Nat) + (1 : Nat)) : Int) - m) else (0 : Int)))).den ∧ (AV.v (Value.int IntKind.i64 at_)).den = (AV.v (Value.int IntKind.i64 at_)).den ∧ (AV.ptr (4 : Nat) n2 (0 : Nat)).den = (AV.ptr (4 : Nat) n2 (0 : Nat)).den ∧ True) ∧
 LeH
 [Blk.mk hn (Cont.cells [AV.v (Value.int IntKind.i64 m), AV.v (Value.int IntKind.i64 at_), AV.sl (2 : Nat) an r (1 : Nat) len cap, AV.mp (1 : Nat) mn] (55 : Nat)) true, Blk.mk mn (Cont.mape (ByteArray × Int) kyM vlM mkM (dropE (kf (if IntKind.i64.wrap ((↑(at_.toNat - (0 : Nat) + (1 : Nat)) : Int) - m) > (0 : Int) then IntKind.i64.wrap ((↑(at_.toNat - (0 : Nat) + (1 : Nat)) : Int) - m) else (0 : Int)) at_ x_1 es) n12) clock) true,
 Blk.mk an
 (Cont.rows N
 [Col.ints IntKind.i64 fun (q : Nat) =>
 if r + (at_.toNat - (0 : Nat)) ≤ q ∧ q < r + (at_.toNat - (0 : Nat)) + (1 : Nat) then
 match asI IntKind.i64 ((nth [AV.v (Value.int IntKind.i64 x)] (((0 : Nat) + (q - (r + (at_.toNat - (0 : Nat))))) * (1 : Nat) + nat_lit 0)).getD (AV.v undef)) with
 | some x => x
 | none => (0 : Int)
 else g q]
 (3 : TypeId))
 true,
 Blk.mk n1 (Cont.cells [AV.v (Value.int IntKind.i64 x)] (3 : Nat)) true, Blk.mk n2 (Cont.itere (1 : Nat) mn clock (n6 :: x_1)) true]
 [Blk.mk hn (Cont.cells [AV.v (Value.int IntKind.i64 m), AV.v (Value.int IntKind.i64 at_), AV.sl (2 : Nat) an r (1 : Nat) len cap, AV.mp (1 : Nat) mn] (55 : Nat)) true, Blk.mk mn (Cont.mape (ByteArray × Int) kyM vlM mkM (kf (if IntKind.i64.wrap ((↑(at_.toNat - (0 : Nat) + (1 : Nat)) : Int) - m) > (0 : Int) then IntKind.i64.wrap ((↑(at_.toNat - (0 : Nat) + (1 : Nat)) : Int) - m) else (0 : Int)) at_ x' es) clock) true,
 Blk.mk an
 (Cont.rows N
 [Col.ints IntKind.i64 fun (q : Nat) =>
 if r + (at_.toNat - (0 : Nat)) ≤ q ∧ q < r + (at_.toNat - (0 : Nat)) + (1 : Nat) then
 match asI IntKind.i64 ((nth [AV.v (Value.int IntKind.i64 x)] (((0 : Nat) + (q - (r + (at_.toNat - (0 : Nat))))) * (1 : Nat) + nat_lit 0)).getD (AV.v undef)) with
 | some x => x
 | none => (0 : Int)
 else g q]
 (3 : TypeId))
 true,
 Blk.mk n1 (Cont.cells [AV.v (Value.int IntKind.i64 x)] (3 : Nat)) true, Blk.mk n2 (Cont.itere (1 : Nat) mn clock x') true])
 True) ∧
 ((∀ (a_2 : ByteArray × Int) (b : Nat), (a_2, b) ∈ kf (if IntKind.i64.wrap ((↑(at_.toNat - (0 : Nat) + (1 : Nat)) : Int) - m) > (0 : Int) then IntKind.i64.wrap ((↑(at_.toNat - (0 : Nat) + (1 : Nat)) : Int) - m) else (0 : Int)) at_ x_1 es → eqS a.fst a_2.fst = false) →
 ∃ (x' : List Nat),
 (x'.Nodup ∧ ∀ (b : Nat), b ∈ x' → b ∈ List.map (fun (x : (ByteArray × Int) × Nat) => x.snd) es) ∧
 List.length es - x'.length < List.length es - x_1.length ∧
 ((AV.ptr (0 : Nat) hn (0 : Nat)).den = (AV.ptr (0 : Nat) hn (0 : Nat)).den ∧ (AV.v (Value.int IntKind.i64 (if IntKind.i64.wrap ((↑(at_.toNat - (0 : Nat) + (1 : Nat)) : Int) - m) > (0 : Int) then IntKind.i64.wrap ((↑(at_.toNat - (0 : Nat) + (1 : Nat)) : Int) - m) else (0 : Int)))).den = (AV.v (Value.int IntKind.i64 (if IntKind.i64.wrap ((↑(at_.toNat - (0 : Nat) + (1 : Nat)) : Int) - m) > (0 : Int) then IntKind.i64.wrap ((↑(at_.toNat - (0 : Nat) + (1 : Nat)) : Int) - m) else (0 : Int)))).den ∧ (AV.v (Value.int IntKind.i64 at_)).den = (AV.v (Value.int IntKind.i64 at_)).den ∧ (AV.ptr (4 : Nat) n2 (0 : Nat)).den = (AV.ptr (4 : Nat) n2 (0 : Nat)).den ∧ True) ∧
 LeH
 [Blk.mk hn (Cont.cells [AV.v (Value.int IntKind.i64 m), AV.v (Value.int IntKind.i64 at_), AV.sl (2 : Nat) an r (1 : Nat) len cap, AV.mp (1 : Nat) mn] (55 : Nat)) true, Blk.mk mn (Cont.mape (ByteArray × Int) kyM vlM mkM (kf (if IntKind.i64.wrap ((↑(at_.toNat - (0 : Nat) + (1 : Nat)) : Int) - m) > (0 : Int) then IntKind.i64.wrap ((↑(at_.toNat - (0 : Nat) + (1 : Nat)) : Int) - m) else (0 : Int)) at_ x_1 es) clock) true,
 Blk.mk an
 (Cont.rows N
 [Col.ints IntKind.i64 fun (q : Nat) =>
 if r + (at_.toNat - (0 : Nat)) ≤ q ∧ q < r + (at_.toNat - (0 : Nat)) + (1 : Nat) then
 match asI IntKind.i64 ((nth [AV.v (Value.int IntKind.i64 x)] (((0 : Nat) + (q - (r + (at_.toNat - (0 : Nat))))) * (1 : Nat) + nat_lit 0)).getD (AV.v undef)) with
 | some x => x
 | none => (0 : Int)
 else g q]
 (3 : TypeId))
 true,
 Blk.mk n1 (Cont.cells [AV.v (Value.int IntKind.i64 x)] (3 : Nat)) true, Blk.mk n2 (Cont.itere (1 : Nat) mn clock (n6 :: x_1)) true]
 [Blk.mk hn (Cont.cells [AV.v (Value.int IntKind.i64 m), AV.v (Value.int IntKind.i64 at_), AV.sl (2 : Nat) an r (1 : Nat) len cap, AV.mp (1 : Nat) mn] (55 : Nat)) true, Blk.mk mn (Cont.mape (ByteArray × Int) kyM vlM mkM (kf (if IntKind.i64.wrap ((↑(at_.toNat - (0 : Nat) + (1 : Nat)) : Int) - m) > (0 : Int) then IntKind.i64.wrap ((↑(at_.toNat - (0 : Nat) + (1 : Nat)) : Int) - m) else (0 : Int)) at_ x' es) clock) true,
 Blk.mk an
 (Cont.rows N
 [Col.ints IntKind.i64 fun (q : Nat) =>
 if r + (at_.toNat - (0 : Nat)) ≤ q ∧ q < r + (at_.toNat - (0 : Nat)) + (1 : Nat) then
 match asI IntKind.i64 ((nth [AV.v (Value.int IntKind.i64 x)] (((0 : Nat) + (q - (r + (at_.toNat - (0 : Nat))))) * (1 : Nat) + nat_lit 0)).getD (AV.v undef)) with
 | some x => x
 | none => (0 : Int)
 else g q]
 (3 : TypeId))
 true,
 Blk.mk n1 (Cont.cells [AV.v (Value.int IntKind.i64 x)] (3 : Nat)) true, Blk.mk n2 (Cont.itere (1 : Nat) mn clock x') true]))
 (hn = hn ∧
 mn = mn ∧
 (∀ (a_2 : ByteArray × Int) (n12 : Nat),
 (a_2, n12) ∈ kf (if IntKind.i64.wrap ((↑(at_.toNat - (0 : Nat) + (1 : Nat)) : Int) - m) > (0 : Int) then IntKind.i64.wrap ((↑(at_.toNat - (0 : Nat) + (1 : Nat)) : Int) - m) else (0 : Int)) at_ x_1 es →
 br (eqS a.fst a_2.fst)
 (∃ (x' : List Nat),
 (x'.Nodup ∧ ∀ (b : Nat), b ∈ x' → b ∈ List.map (fun (x : (ByteArray × Int) × Nat) => x.snd) es) ∧
 List.length es - x'.length < List.length es - x_1.length ∧
 ((AV.ptr (0 : Nat) hn (0 : Nat)).den = (AV.ptr (0 : Nat) hn (0 : Nat)).den ∧ (AV.v (Value.int IntKind.i64 (if IntKind.i64.wrap ((↑(at_.toNat - (0 : Nat) + (1 : Nat)) : Int) - m) > (0 : Int) then IntKind.i64.wrap ((↑(at_.toNat - (0 : Nat) + (1 : Nat)) : Int) - m) else (0 : Int)))).den = (AV.v (Value.int IntKind.i64 (if IntKind.i64.wrap ((↑(at_.toNat - (0 : Nat) + (1 : Nat)) : Int) - m) > (0 : Int) then IntKind.i64.wrap ((↑(at_.toNat - (0 : Nat) + (1 : Nat)) : Int) - m) else (0 : Int)))).den ∧ (AV.v (Value.int IntKind.i64 at_)).den = (AV.v (Value.int IntKind.i64 at_)).den ∧ (AV.ptr (4 : Nat) n2 (0 : Nat)).den = (AV.ptr (4 : Nat) n2 (0 : Nat)).den ∧ True) ∧
 LeH
 [Blk.mk hn (Cont.cells [AV.v (Value.int IntKind.i64 m), AV.v (Value.int IntKind.i64 at_), AV.sl (2 : Nat) an r (1 : Nat) len cap, AV.mp (1 : Nat) mn] (55 : Nat)) true, Blk.mk mn (Cont.mape (ByteArray × Int) kyM vlM mkM (setE (kf (if IntKind.i64.wrap ((↑(at_.toNat - (0 : Nat) + (1 : Nat)) : Int) - m) > (0 : Int) then IntKind.i64.wrap ((↑(at_.toNat - (0 : Nat) + (1 : Nat)) : Int) - m) else (0 : Int)) at_ x_1 es) n12 (a.fst, IntKind.i64.wrap (a.snd - if IntKind.i64.wrap ((↑(at_.toNat - (0 : Nat) + (1 : Nat)) : Int) - m) > (0 : Int) then IntKind.i64.wrap ((↑(at_.toNat - (0 : Nat) + (1 : Nat)) : Int) - m) else (0 : Int)))) clock) true,
 Blk.mk an
 (Cont.rows N
 [Col.ints IntKind.i64 fun (q : Nat) =>
 if r + (at_.toNat - (0 : Nat)) ≤ q ∧ q < r + (at_.toNat - (0 : Nat)) + (1 : Nat) then
 match asI IntKind.i64 ((nth [AV.v (Value.int IntKind.i64 x)] (((0 : Nat) + (q - (r + (at_.toNat - (0 : Nat))))) * (1 : Nat) + nat_lit 0)).getD (AV.v undef)) with
 | some x => x
 | none => (0 : Int)
 else g q]
 (3 : TypeId))
 true,
 Blk.mk n1 (Cont.cells [AV.v (Value.int IntKind.i64 x)] (3 : Nat)) true, Blk.mk n2 (Cont.itere (1 : Nat) mn clock (n6 :: x_1)) true]
 [Blk.mk hn (Cont.cells [AV.v (Value.int IntKind.i64 m), AV.v (Value.int IntKind.i64 at_), AV.sl (2 : Nat) an r (1 : Nat) len cap, AV.mp (1 : Nat) mn] (55 : Nat)) true, Blk.mk mn (Cont.mape (ByteArray × Int) kyM vlM mkM (kf (if IntKind.i64.wrap ((↑(at_.toNat - (0 : Nat) + (1 : Nat)) : Int) - m) > (0 : Int) then IntKind.i64.wrap ((↑(at_.toNat - (0 : Nat) + (1 : Nat)) : Int) - m) else (0 : Int)) at_ x' es) clock) true,
 Blk.mk an
 (Cont.rows N
 [Col.ints IntKind.i64 fun (q : Nat) =>
 if r + (at_.toNat - (0 : Nat)) ≤ q ∧ q < r + (at_.toNat - (0 : Nat)) + (1 : Nat) then
 match asI IntKind.i64 ((nth [AV.v (Value.int IntKind.i64 x)] (((0 : Nat) + (q - (r + (at_.toNat - (0 : Nat))))) * (1 : Nat) + nat_lit 0)).getD (AV.v undef)) with
 | some x => x
 | none => (0 : Int)
 else g q]
 (3 : TypeId))
 true,
 Blk.mk n1 (Cont.cells [AV.v (Value.int IntKind.i64 x)] (3 : Nat)) true, Blk.mk n2 (Cont.itere (1 : Nat) mn clock x') true])
 True) ∧
 ((∀ (a_2 : ByteArray × Int) (b : Nat), (a_2, b) ∈ kf (if IntKind.i64.wrap ((↑(at_.toNat - (0 : Nat) + (1 : Nat)) : Int) - m) > (0 : Int) then IntKind.i64.wrap ((↑(at_.toNat - (0 : Nat) + (1 : Nat)) : Int) - m) else (0 : Int)) at_ x_1 es → eqS a.fst a_2.fst = false) →
 ∃ (x' : List Nat),
 (x'.Nodup ∧ ∀ (b : Nat), b ∈ x' → b ∈ List.map (fun (x : (ByteArray × Int) × Nat) => x.snd) es) ∧
 List.length es - x'.length < List.length es - x_1.length ∧
 ((AV.ptr (0 : Nat) hn (0 : Nat)).den = (AV.ptr (0 : Nat) hn (0 : Nat)).den ∧ (AV.v (Value.int IntKind.i64 (if IntKind.i64.wrap ((↑(at_.toNat - (0 : Nat) + (1 : Nat)) : Int) - m) > (0 : Int) then IntKind.i64.wrap ((↑(at_.toNat - (0 : Nat) + (1 : Nat)) : Int) - m) else (0 : Int)))).den = (AV.v (Value.int IntKind.i64 (if IntKind.i64.wrap ((↑(at_.toNat - (0 : Nat) + (1 : Nat)) : Int) - m) > (0 : Int) then IntKind.i64.wrap ((↑(at_.toNat - (0 : Nat) + (1 : Nat)) : Int) - m) else (0 : Int)))).den ∧ (AV.v (Value.int IntKind.i64 at_)).den = (AV.v (Value.int IntKind.i64 at_)).den ∧ (AV.ptr (4 : Nat) n2 (0 : Nat)).den = (AV.ptr (4 : Nat) n2 (0 : Nat)).den ∧ True) ∧
 LeH
 [Blk.mk hn (Cont.cells [AV.v (Value.int IntKind.i64 m), AV.v (Value.int IntKind.i64 at_), AV.sl (2 : Nat) an r (1 : Nat) len cap, AV.mp (1 : Nat) mn] (55 : Nat)) true, Blk.mk mn (Cont.mape (ByteArray × Int) kyM vlM mkM (kf (if IntKind.i64.wrap ((↑(at_.toNat - (0 : Nat) + (1 : Nat)) : Int) - m) > (0 : Int) then IntKind.i64.wrap ((↑(at_.toNat - (0 : Nat) + (1 : Nat)) : Int) - m) else (0 : Int)) at_ x_1 es ++ [((a.fst, IntKind.i64.wrap (a.snd - if IntKind.i64.wrap ((↑(at_.toNat - (0 : Nat) + (1 : Nat)) : Int) - m) > (0 : Int) then IntKind.i64.wrap ((↑(at_.toNat - (0 : Nat) + (1 : Nat)) : Int) - m) else (0 : Int))), clock)]) (clock + (1 : Nat))) true,
 Blk.mk an
 (Cont.rows N
 [Col.ints IntKind.i64 fun (q : Nat) =>
 if r + (at_.toNat - (0 : Nat)) ≤ q ∧ q < r + (at_.toNat - (0 : Nat)) + (1 : Nat) then
 match asI IntKind.i64 ((nth [AV.v (Value.int IntKind.i64 x)] (((0 : Nat) + (q - (r + (at_.toNat - (0 : Nat))))) * (1 : Nat) + nat_lit 0)).getD (AV.v undef)) with
 | some x => x
 | none => (0 : Int)
 else g q]
 (3 : TypeId))
 true,
 Blk.mk n1 (Cont.cells [AV.v (Value.int IntKind.i64 x)] (3 : Nat)) true, Blk.mk n2 (Cont.itere (1 : Nat) mn clock (n6 :: x_1)) true]
 [Blk.mk hn (Cont.cells [AV.v (Value.int IntKind.i64 m), AV.v (Value.int IntKind.i64 at_), AV.sl (2 : Nat) an r (1 : Nat) len cap, AV.mp (1 : Nat) mn] (55 : Nat)) true, Blk.mk mn (Cont.mape (ByteArray × Int) kyM vlM mkM (kf (if IntKind.i64.wrap ((↑(at_.toNat - (0 : Nat) + (1 : Nat)) : Int) - m) > (0 : Int) then IntKind.i64.wrap ((↑(at_.toNat - (0 : Nat) + (1 : Nat)) : Int) - m) else (0 : Int)) at_ x' es) clock) true,
 Blk.mk an
 (Cont.rows N
 [Col.ints IntKind.i64 fun (q : Nat) =>
 if r + (at_.toNat - (0 : Nat)) ≤ q ∧ q < r + (at_.toNat - (0 : Nat)) + (1 : Nat) then
 match asI IntKind.i64 ((nth [AV.v (Value.int IntKind.i64 x)] (((0 : Nat) + (q - (r + (at_.toNat - (0 : Nat))))) * (1 : Nat) + nat_lit 0)).getD (AV.v undef)) with
 | some x => x
 | none => (0 : Int)
 else g q]
 (3 : TypeId))
 true,
 Blk.mk n1 (Cont.cells [AV.v (Value.int IntKind.i64 x)] (3 : Nat)) true, Blk.mk n2 (Cont.itere (1 : Nat) mn clock x') true])))) ∧
 ((∀ (a : ByteArray × Int) (b : Nat), (a, b) ∈ kf (if IntKind.i64.wrap ((↑(at_.toNat - (0 : Nat) + (1 : Nat)) : Int) - m) > (0 : Int) then IntKind.i64.wrap ((↑(at_.toNat - (0 : Nat) + (1 : Nat)) : Int) - m) else (0 : Int)) at_ x_1 es → b ∈ x_1) →
 (((0 : Int) ≤ if IntKind.i64.wrap ((↑(at_.toNat - (0 : Nat) + (1 : Nat)) : Int) - m) > (0 : Int) then IntKind.i64.wrap ((↑(at_.toNat - (0 : Nat) + (1 : Nat)) : Int) - m) else (0 : Int)) ∧ (if IntKind.i64.wrap ((↑(at_.toNat - (0 : Nat) + (1 : Nat)) : Int) - m) > (0 : Int) then IntKind.i64.wrap ((↑(at_.toNat - (0 : Nat) + (1 : Nat)) : Int) - m) else (0 : Int)) ≤ (↑(at_.toNat - (0 : Nat) + (1 : Nat)) : Int)) ∧
 at_.toNat - (0 : Nat) + (1 : Nat) ≤ at_.toNat - (0 : Nat) ∧
 hn = hn ∧
 hn = hn ∧
 hn = hn ∧
 R (AV.v (Value.int IntKind.i64 (0 : Int)))
 [Blk.mk hn (Cont.cells [AV.v (Value.int IntKind.i64 m), AV.v (Value.int IntKind.i64 (↑(at_.toNat - (0 : Nat) + (1 : Nat) - (if IntKind.i64.wrap ((↑(at_.toNat - (0 : Nat) + (1 : Nat)) : Int) - m) > (0 : Int) then IntKind.i64.wrap ((↑(at_.toNat - (0 : Nat) + (1 : Nat)) : Int) - m) else (0 : Int)).toNat) : Int)), AV.sl (2 : Nat) an (offB (at_.toNat - (0 : Nat)) (if IntKind.i64.wrap ((↑(at_.toNat - (0 : Nat) + (1 : Nat)) : Int) - m) > (0 : Int) then IntKind.i64.wrap ((↑(at_.toNat - (0 : Nat) + (1 : Nat)) : Int) - m) else (0 : Int)).toNat (at_.toNat - (0 : Nat) + (1 : Nat)) r) (1 : Nat) (at_.toNat - (0 : Nat) + (1 : Nat) - (if IntKind.i64.wrap ((↑(at_.toNat - (0 : Nat) + (1 : Nat)) : Int) - m) > (0 : Int) then IntKind.i64.wrap ((↑(at_.toNat - (0 : Nat) + (1 : Nat)) : Int) - m) else (0 : Int)).toNat) (at_.toNat - (0 : Nat) - (if IntKind.i64.wrap ((↑(at_.toNat - (0 : Nat) + (1 : Nat)) : Int) - m) > (0 : Int) then IntKind.i64.wrap ((↑(at_.toNat - (0 : Nat) + (1 : Nat)) : Int) - m) else (0 : Int)).toNat), AV.mp (1 : Nat) mn] (55 : Nat)) true, Blk.mk mn (Cont.mape (ByteArray × Int) kyM vlM mkM (kf (if IntKind.i64.wrap ((↑(at_.toNat - (0 : Nat) + (1 : Nat)) : Int) - m) > (0 : Int) then IntKind.i64.wrap ((↑(at_.toNat - (0 : Nat) + (1 : Nat)) : Int) - m) else (0 : Int)) at_ x_1 es) clock) true,
 Blk.mk an
 (Cont.rows N
 [Col.ints IntKind.i64 fun (q : Nat) =>
 if r + (at_.toNat - (0 : Nat)) ≤ q ∧ q < r + (at_.toNat - (0 : Nat)) + (1 : Nat) then
 match asI IntKind.i64 ((nth [AV.v (Value.int IntKind.i64 x)] (((0 : Nat) + (q - (r + (at_.toNat - (0 : Nat))))) * (1 : Nat) + nat_lit 0)).getD (AV.v undef)) with
 | some x => x
 | none => (0 : Int)
 else g q]
 (3 : TypeId))
 true,
 Blk.mk n1 (Cont.cells [AV.v (Value.int IntKind.i64 x)] (3 : Nat)) true, Blk.mk n2 (Cont.itere (1 : Nat) mn clock x_1) true]))
 ((at_.toNat - (0 : Nat) + (1 : Nat) ≤ (9223372036854775807 : Nat) ∧ (at_.toNat - (0 : Nat) + (1 : Nat) + (at_.toNat - (0 : Nat) + (1 : Nat)) / (4 : Nat) + (192 : Nat)) * (8 : Nat) ≤ (281474976710656 : Nat)) ∧
 ∀ (n2 n3 : Nat),
 at_.toNat - (0 : Nat) + (1 : Nat) ≤ n3 →
 some (Blk.mk hn (Cont.cells [AV.v (Value.int IntKind.i64 m), AV.v (Value.int IntKind.i64 at_), AV.sl (2 : Nat) an r (1 : Nat) len cap, AV.mp (1 : Nat) mn] (55 : Nat)) true) = some (Blk.mk hn (Cont.cells [AV.v (Value.int IntKind.i64 m), AV.v (Value.int IntKind.i64 at_), AV.sl (2 : Nat) an r (1 : Nat) len cap, AV.mp (1 : Nat) mn] (55 : Nat)) true) ∧
 some (Blk.mk hn (Cont.cells [AV.v (Value.int IntKind.i64 m), AV.v (Value.int IntKind.i64 at_), AV.sl (2 : Nat) an r (1 : Nat) len cap, AV.mp (1 : Nat) mn] (55 : Nat)) true) = some (Blk.mk hn (Cont.cells [AV.v (Value.int IntKind.i64 m), AV.v (Value.int IntKind.i64 at_), AV.sl (2 : Nat) an r (1 : Nat) len cap, AV.mp (1 : Nat) mn] (55 : Nat)) true) ∧
 some (Blk.mk hn (Cont.cells [AV.v (Value.int IntKind.i64 m), AV.v (Value.int IntKind.i64 at_), AV.sl (2 : Nat) an r (1 : Nat) len cap, AV.mp (1 : Nat) mn] (55 : Nat)) true) = some (Blk.mk hn (Cont.cells [AV.v (Value.int IntKind.i64 m), AV.v (Value.int IntKind.i64 at_), AV.sl (2 : Nat) an r (1 : Nat) len cap, AV.mp (1 : Nat) mn] (55 : Nat)) true) ∧
 hn = hn ∧
 hn = hn ∧
 hn = hn ∧
 mn = mn ∧
 ∀ (n5 : Nat),
 (∃ (x_1 : List Nat),
 (x_1.Nodup ∧ ∀ (b : Nat), b ∈ x_1 → b ∈ List.map (fun (x : (ByteArray × Int) × Nat) => x.snd) es) ∧
 ((AV.ptr (0 : Nat) hn (0 : Nat)).den = (AV.ptr (0 : Nat) hn (0 : Nat)).den ∧ (AV.v (Value.int IntKind.i64 (if IntKind.i64.wrap ((↑(at_.toNat - (0 : Nat) + (1 : Nat)) : Int) - m) > (0 : Int) then IntKind.i64.wrap ((↑(at_.toNat - (0 : Nat) + (1 : Nat)) : Int) - m) else (0 : Int)))).den = (AV.v (Value.int IntKind.i64 (if IntKind.i64.wrap ((↑(at_.toNat - (0 : Nat) + (1 : Nat)) : Int) - m) > (0 : Int) then IntKind.i64.wrap ((↑(at_.toNat - (0 : Nat) + (1 : Nat)) : Int) - m) else (0 : Int)))).den ∧ (AV.v (Value.int IntKind.i64 at_)).den = (AV.v (Value.int IntKind.i64 at_)).den ∧ (AV.ptr (5 : Nat) n5 (0 : Nat)).den = (AV.ptr (5 : Nat) n5 (0 : Nat)).den ∧ True) ∧
 LeH
 [Blk.mk hn (Cont.cells [AV.v (Value.int IntKind.i64 m), AV.v (Value.int IntKind.i64 at_), AV.sl (2 : Nat) an r (1 : Nat) len cap, AV.mp (1 : Nat) mn] (55 : Nat)) true, Blk.mk mn (Cont.mape (ByteArray × Int) kyM vlM mkM es clock) true, Blk.mk an (Cont.rows N [Col.ints IntKind.i64 g] (3 : TypeId)) true, Blk.mk n1 (Cont.cells [AV.v (Value.int IntKind.i64 x)] (3 : Nat)) true,
 Blk.mk n2
 (Cont.rows n3
 [Col.ints IntKind.i64 fun (i : Nat) =>
 if i < at_.toNat - (0 : Nat) then g (r + i)
 else
 if i < at_.toNat - (0 : Nat) + (1 : Nat) then
 match asI IntKind.i64 ((nth [AV.v (Value.int IntKind.i64 x)] (((0 : Nat) + (i - (at_.toNat - (0 : Nat)))) * (1 : Nat) + nat_lit 0)).getD (AV.v undef)) with
 | some x => x
 | none => (0 : Int)
 else (0 : Int)]
 (3 : Nat))
 true,
 Blk.mk n5 (Cont.itere (1 : Nat) mn clock []) true]
 [Blk.mk hn (Cont.cells [AV.v (Value.int IntKind.i64 m), AV.v (Value.int IntKind.i64 at_), AV.sl (2 : Nat) an r (1 : Nat) len cap, AV.mp (1 : Nat) mn] (55 : Nat)) true, Blk.mk mn (Cont.mape (ByteArray × Int) kyM vlM mkM (kf (if IntKind.i64.wrap ((↑(at_.toNat - (0 : Nat) + (1 : Nat)) : Int) - m) > (0 : Int) then IntKind.i64.wrap ((↑(at_.toNat - (0 : Nat) + (1 : Nat)) : Int) - m) else (0 : Int)) at_ x_1 es) clock) true, Blk.mk an (Cont.rows N [Col.ints IntKind.i64 g] (3 : TypeId)) true, Blk.mk n1 (Cont.cells [AV.v (Value.int IntKind.i64 x)] (3 : Nat)) true,
 Blk.mk n2
 (Cont.rows n3
 [Col.ints IntKind.i64 fun (i : Nat) =>
 if i < at_.toNat - (0 : Nat) then g (r + i)
 else
 if i < at_.toNat - (0 : Nat) + (1 : Nat) then
 match asI IntKind.i64 ((nth [AV.v (Value.int IntKind.i64 x)] (((0 : Nat) + (i - (at_.toNat - (0 : Nat)))) * (1 : Nat) + nat_lit 0)).getD (AV.v undef)) with
 | some x => x
 | none => (0 : Int)
 else (0 : Int)]
 (3 : Nat))
 true,
 Blk.mk n5 (Cont.itere (1 : Nat) mn clock x_1) true]) ∧
 ∀ (x_1 : List Nat),
 (x_1.Nodup ∧ ∀ (b : Nat), b ∈ x_1 → b ∈ List.map (fun (x : (ByteArray × Int) × Nat) => x.snd) es) →
 n5 = n5 ∧
 mn = mn ∧
 clock = clock ∧
 (∀ (a : ByteArray × Int) (n9 : Nat),
 (a, n9) ∈ kf (if IntKind.i64.wrap ((↑(at_.toNat - (0 : Nat) + (1 : Nat)) : Int) - m) > (0 : Int) then IntKind.i64.wrap ((↑(at_.toNat - (0 : Nat) + (1 : Nat)) : Int) - m) else (0 : Int)) at_ x_1 es →
 ¬n9 ∈ x_1 →
 n5 = n5 ∧
 mn = mn ∧
 clock = clock ∧
 (∃ (a : ByteArray × Int), List.Mem (a, n9) (kf (if IntKind.i64.wrap ((↑(at_.toNat - (0 : Nat) + (1 : Nat)) : Int) - m) > (0 : Int) then IntKind.i64.wrap ((↑(at_.toNat - (0 : Nat) + (1 : Nat)) : Int) - m) else (0 : Int)) at_ x_1 es)) ∧
 ∀ (a : ByteArray × Int),
 (a, n9) ∈ kf (if IntKind.i64.wrap ((↑(at_.toNat - (0 : Nat) + (1 : Nat)) : Int) - m) > (0 : Int) then IntKind.i64.wrap ((↑(at_.toNat - (0 : Nat) + (1 : Nat)) : Int) - m) else (0 : Int)) at_ x_1 es →
 br (decide (a.snd < if IntKind.i64.wrap ((↑(at_.toNat - (0 : Nat) + (1 : Nat)) : Int) - m) > (0 : Int) then IntKind.i64.wrap ((↑(at_.toNat - (0 : Nat) + (1 : Nat)) : Int) - m) else (0 : Int)))
 (hn = hn ∧
 mn = mn ∧
 (∀ (a_2 : ByteArray × Int) (n15 : Nat),
 (a_2, n15) ∈ kf (if IntKind.i64.wrap ((↑(at_.toNat - (0 : Nat) + (1 : Nat)) : Int) - m) > (0 : Int) then IntKind.i64.wrap ((↑(at_.toNat - (0 : Nat) + (1 : Nat)) : Int) - m) else (0 : Int)) at_ x_1 es →
 br (eqS a.fst a_2.fst)
 (∃ (x' : List Nat),
 (x'.Nodup ∧ ∀ (b : Nat), b ∈ x' → b ∈ List.map (fun (x : (ByteArray × Int) × Nat) => x.snd) es) ∧
 List.length es - x'.length < List.length es - x_1.length ∧
 ((AV.ptr (0 : Nat) hn (0 : Nat)).den = (AV.ptr (0 : Nat) hn (0 : Nat)).den ∧ (AV.v (Value.int IntKind.i64 (if IntKind.i64.wrap ((↑(at_.toNat - (0 : Nat) + (1 : Nat)) : Int) - m) > (0 : Int) then IntKind.i64.wrap ((↑(at_.toNat - (0 : Nat) + (1 : Nat)) : Int) - m) else (0 : Int)))).den = (AV.v (Value.int IntKind.i64 (if IntKind.i64.wrap ((↑(at_.toNat - (0 : Nat) + (1 : Nat)) : Int) - m) > (0 : Int) then IntKind.i64.wrap ((↑(at_.toNat - (0 : Nat) + (1 : Nat)) : Int) - m) else (0 : Int)))).den ∧ (AV.v (Value.int IntKind.i64 at_)).den = (AV.v (Value.int IntKind.i64 at_)).den ∧ (AV.ptr (5 : Nat) n5 (0 : Nat)).den = (AV.ptr (5 : Nat) n5 (0 : Nat)).den ∧ True) ∧
 LeH
 [Blk.mk hn (Cont.cells [AV.v (Value.int IntKind.i64 m), AV.v (Value.int IntKind.i64 at_), AV.sl (2 : Nat) an r (1 : Nat) len cap, AV.mp (1 : Nat) mn] (55 : Nat)) true, Blk.mk mn (Cont.mape (ByteArray × Int) kyM vlM mkM (dropE (kf (if IntKind.i64.wrap ((↑(at_.toNat - (0 : Nat) + (1 : Nat)) : Int) - m) > (0 : Int) then IntKind.i64.wrap ((↑(at_.toNat - (0 : Nat) + (1 : Nat)) : Int) - m) else (0 : Int)) at_ x_1 es) n15) clock) true, Blk.mk an (Cont.rows N [Col.ints IntKind.i64 g] (3 : TypeId)) true, Blk.mk n1 (Cont.cells [AV.v (Value.int IntKind.i64 x)] (3 : Nat)) true,
 Blk.mk n2
 (Cont.rows n3
 [Col.ints IntKind.i64 fun (i : Nat) =>
 if i < at_.toNat - (0 : Nat) then g (r + i)
 else
 if i < at_.toNat - (0 : Nat) + (1 : Nat) then
 match asI IntKind.i64 ((nth [AV.v (Value.int IntKind.i64 x)] (((0 : Nat) + (i - (at_.toNat - (0 : Nat)))) * (1 : Nat) + nat_lit 0)).getD (AV.v undef)) with
 | some x => x
 | none => (0 : Int)
 else (0 : Int)]
 (3 : Nat))
 true,
 Blk.mk n5 (Cont.itere (1 : Nat) mn clock (n9 :: x_1)) true]
 [Blk.mk hn (Cont.cells [AV.v (Value.int IntKind.i64 m), AV.v (Value.int IntKind.i64 at_), AV.sl (2 : Nat) an r (1 : Nat) len cap, AV.mp (1 : Nat) mn] (55 : Nat)) true, Blk.mk mn (Cont.mape (ByteArray × Int) kyM vlM mkM (kf (if IntKind.i64.wrap ((↑(at_.toNat - (0 : Nat) + (1 : Nat)) : Int) - m) > (0 : Int) then IntKind.i64.wrap ((↑(at_.toNat - (0 : Nat) + (1 : Nat)) : Int) - m) else (0 : Int)) at_ x' es) clock) true, Blk.mk an (Cont.rows N [Col.ints IntKind.i64 g] (3 : TypeId)) true, Blk.mk n1 (Cont.cells [AV.v (Value.int IntKind.i64 x)] (3 : Nat)) true,
 Blk.mk n2
 (Cont.rows n3
 [Col.ints IntKind.i64 fun (i : Nat) =>
 if i < at_.toNat - (0 : Nat) then g (r + i)
 else
 if i < at_.toNat - (0 : Nat) + (1 : Nat) then
 match asI IntKind.i64 ((nth [AV.v (Value.int IntKind.i64 x)] (((0 : Nat) + (i - (at_.toNat - (0 : Nat)))) * (1 : Nat) + nat_lit 0)).getD (AV.v undef)) with
 | some x => x
 | none => (0 : Int)
 else (0 : Int)]
 (3 : Nat))
 true,
 Blk.mk n5 (Cont.itere (1 : Nat) mn clock x') true])
 True) ∧
 ((∀ (a_2 : ByteArray × Int) (b : Nat), (a_2, b) ∈ kf (if IntKind.i64.wrap ((↑(at_.toNat - (0 : Nat) + (1 : Nat)) : Int) - m) > (0 : Int) then IntKind.i64.wrap ((↑(at_.toNat - (0 : Nat) + (1 : Nat)) : Int) - m) else (0 : Int)) at_ x_1 es → eqS a.fst a_2.fst = false) →
 ∃ (x' : List Nat),
 (x'.Nodup ∧ ∀ (b : Nat), b ∈ x' → b ∈ List.map (fun (x : (ByteArray × Int) × Nat) => x.snd) es) ∧
 List.length es - x'.length < List.length es - x_1.length ∧
 ((AV.ptr (0 : Nat) hn (0 : Nat)).den = (AV.ptr (0 : Nat) hn (0 : Nat)).den ∧ (AV.v (Value.int IntKind.i64 (if IntKind.i64.wrap ((↑(at_.toNat - (0 : Nat) + (1 : Nat)) : Int) - m) > (0 : Int) then IntKind.i64.wrap ((↑(at_.toNat - (0 : Nat) + (1 : Nat)) : Int) - m) else (0 : Int)))).den = (AV.v (Value.int IntKind.i64 (if IntKind.i64.wrap ((↑(at_.toNat - (0 : Nat) + (1 : Nat)) : Int) - m) > (0 : Int) then IntKind.i64.wrap ((↑(at_.toNat - (0 : Nat) + (1 : Nat)) : Int) - m) else (0 : Int)))).den ∧ (AV.v (Value.int IntKind.i64 at_)).den = (AV.v (Value.int IntKind.i64 at_)).den ∧ (AV.ptr (5 : Nat) n5 (0 : Nat)).den = (AV.ptr (5 : Nat) n5 (0 : Nat)).den ∧ True) ∧
 LeH
 [Blk.mk hn (Cont.cells [AV.v (Value.int IntKind.i64 m), AV.v (Value.int IntKind.i64 at_), AV.sl (2 : Nat) an r (1 : Nat) len cap, AV.mp (1 : Nat) mn] (55 : Nat)) true, Blk.mk mn (Cont.mape (ByteArray × Int) kyM vlM mkM (kf (if IntKind.i64.wrap ((↑(at_.toNat - (0 : Nat) + (1 : Nat)) : Int) - m) > (0 : Int) then IntKind.i64.wrap ((↑(at_.toNat - (0 : Nat) + (1 : Nat)) : Int) - m) else (0 : Int)) at_ x_1 es) clock) true, Blk.mk an (Cont.rows N [Col.ints IntKind.i64 g] (3 : TypeId)) true, Blk.mk n1 (Cont.cells [AV.v (Value.int IntKind.i64 x)] (3 : Nat)) true,
 Blk.mk n2
 (Cont.rows n3
 [Col.ints IntKind.i64 fun (i : Nat) =>
 if i < at_.toNat - (0 : Nat) then g (r + i)
 else
 if i < at_.toNat - (0 : Nat) + (1 : Nat) then
 match asI IntKind.i64 ((nth [AV.v (Value.int IntKind.i64 x)] (((0 : Nat) + (i - (at_.toNat - (0 : Nat)))) * (1 : Nat) + nat_lit 0)).getD (AV.v undef)) with
 | some x => x
 | none => (0 : Int)
 else (0 : Int)]
 (3 : Nat))
 true,
 Blk.mk n5 (Cont.itere (1 : Nat) mn clock (n9 :: x_1)) true]
 [Blk.mk hn (Cont.cells [AV.v (Value.int IntKind.i64 m), AV.v (Value.int IntKind.i64 at_), AV.sl (2 : Nat) an r (1 : Nat) len cap, AV.mp (1 : Nat) mn] (55 : Nat)) true, Blk.mk mn (Cont.mape (ByteArray × Int) kyM vlM mkM (kf (if IntKind.i64.wrap ((↑(at_.toNat - (0 : Nat) + (1 : Nat)) : Int) - m) > (0 : Int) then IntKind.i64.wrap ((↑(at_.toNat - (0 : Nat) + (1 : Nat)) : Int) - m) else (0 : Int)) at_ x' es) clock) true, Blk.mk an (Cont.rows N [Col.ints IntKind.i64 g] (3 : TypeId)) true, Blk.mk n1 (Cont.cells [AV.v (Value.int IntKind.i64 x)] (3 : Nat)) true,
 Blk.mk n2
 (Cont.rows n3
 [Col.ints IntKind.i64 fun (i : Nat) =>
 if i < at_.toNat - (0 : Nat) then g (r + i)
 else
 if i < at_.toNat - (0 : Nat) + (1 : Nat) then
 match asI IntKind.i64 ((nth [AV.v (Value.int IntKind.i64 x)] (((0 : Nat) + (i - (at_.toNat - (0 : Nat)))) * (1 : Nat) + nat_lit 0)).getD (AV.v undef)) with
 | some x => x
 | none => (0 : Int)
 else (0 : Int)]
 (3 : Nat))
 true,
 Blk.mk n5 (Cont.itere (1 : Nat) mn clock x') true]))
 (br (decide (a.snd > at_))
 (hn = hn ∧
 mn = mn ∧
 (∀ (a_2 : ByteArray × Int) (n15 : Nat),
 (a_2, n15) ∈ kf (if IntKind.i64.wrap ((↑(at_.toNat - (0 : Nat) + (1 : Nat)) : Int) - m) > (0 : Int) then IntKind.i64.wrap ((↑(at_.toNat - (0 : Nat) + (1 : Nat)) : Int) - m) else (0 : Int)) at_ x_1 es →
 br (eqS a.fst a_2.fst)
 (∃ (x' : List Nat),
 (x'.Nodup ∧ ∀ (b : Nat), b ∈ x' → b ∈ List.map (fun (x : (ByteArray × Int) × Nat) => x.snd) es) ∧
 List.length es - x'.length < List.length es - x_1.length ∧
 ((AV.ptr (0 : Nat) hn (0 : Nat)).den = (AV.ptr (0 : Nat) hn (0 : Nat)).den ∧ (AV.v (Value.int IntKind.i64 (if IntKind.i64.wrap ((↑(at_.toNat - (0 : Nat) + (1 : Nat)) : Int) - m) > (0 : Int) then IntKind.i64.wrap ((↑(at_.toNat - (0 : Nat) + (1 : Nat)) : Int) - m) else (0 : Int)))).den = (AV.v (Value.int IntKind.i64 (if IntKind.i64.wrap ((↑(at_.toNat - (0 : Nat) + (1 : Nat)) : Int) - m) > (0 : Int) then IntKind.i64.wrap ((↑(at_.toNat - (0 : Nat) + (1 : Nat)) : Int) - m) else (0 : Int)))).den ∧ (AV.v (Value.int IntKind.i64 at_)).den = (AV.v (Value.int IntKind.i64 at_)).den ∧ (AV.ptr (5 : Nat) n5 (0 : Nat)).den = (AV.ptr (5 : Nat) n5 (0 : Nat)).den ∧ True) ∧
 LeH
 [Blk.mk hn (Cont.cells [AV.v (Value.int IntKind.i64 m), AV.v (Value.int IntKind.i64 at_), AV.sl (2 : Nat) an r (1 : Nat) len cap, AV.mp (1 : Nat) mn] (55 : Nat)) true, Blk.mk mn (Cont.mape (ByteArray × Int) kyM vlM mkM (dropE (kf (if IntKind.i64.wrap ((↑(at_.toNat - (0 : Nat) + (1 : Nat)) : Int) - m) > (0 : Int) then IntKind.i64.wrap ((↑(at_.toNat - (0 : Nat) + (1 : Nat)) : Int) - m) else (0 : Int)) at_ x_1 es) n15) clock) true, Blk.mk an (Cont.rows N [Col.ints IntKind.i64 g] (3 : TypeId)) true, Blk.mk n1 (Cont.cells [AV.v (Value.int IntKind.i64 x)] (3 : Nat)) true,
 Blk.mk n2
 (Cont.rows n3
 [Col.ints IntKind.i64 fun (i : Nat) =>
 if i < at_.toNat - (0 : Nat) then g (r + i)
 else
 if i < at_.toNat - (0 : Nat) + (1 : Nat) then
 match asI IntKind.i64 ((nth [AV.v (Value.int IntKind.i64 x)] (((0 : Nat) + (i - (at_.toNat - (0 : Nat)))) * (1 : Nat) + nat_lit 0)).getD (AV.v undef)) with
 | some x => x
 | none => (0 : Int)
 else (0 : Int)]
 (3 : Nat))
 true,
 Blk.mk n5 (Cont.itere (1 : Nat) mn clock (n9 :: x_1)) true]
 [Blk.mk hn (Cont.cells [AV.v (Value.int IntKind.i64 m), AV.v (Value.int IntKind.i64 at_), AV.sl (2 : Nat) an r (1 : Nat) len cap, AV.mp (1 : Nat) mn] (55 : Nat)) true, Blk.mk mn (Cont.mape (ByteArray × Int) kyM vlM mkM (kf (if IntKind.i64.wrap ((↑(at_.toNat - (0 : Nat) + (1 : Nat)) : Int) - m) > (0 : Int) then IntKind.i64.wrap ((↑(at_.toNat - (0 : Nat) + (1 : Nat)) : Int) - m) else (0 : Int)) at_ x' es) clock) true, Blk.mk an (Cont.rows N [Col.ints IntKind.i64 g] (3 : TypeId)) true, Blk.mk n1 (Cont.cells [AV.v (Value.int IntKind.i64 x)] (3 : Nat)) true,
 Blk.mk n2
 (Cont.rows n3
 [Col.ints IntKind.i64 fun (i : Nat) =>
 if i < at_.toNat - (0 : Nat) then g (r + i)
 else
 if i < at_.toNat - (0 : Nat) + (1 : Nat) then
 match asI IntKind.i64 ((nth [AV.v (Value.int IntKind.i64 x)] (((0 : Nat) + (i - (at_.toNat - (0 : Nat)))) * (1 : Nat) + nat_lit 0)).getD (AV.v undef)) with
 | some x => x
 | none => (0 : Int)
 else (0 : Int)]
 (3 : Nat))
 true,
 Blk.mk n5 (Cont.itere (1 : Nat) mn clock x') true])
 True) ∧
 ((∀ (a_2 : ByteArray × Int) (b : Nat), (a_2, b) ∈ kf (if IntKind.i64.wrap ((↑(at_.toNat - (0 : Nat) + (1 : Nat)) : Int) - m) > (0 : Int) then IntKind.i64.wrap ((↑(at_.toNat - (0 : Nat) + (1 : Nat)) : Int) - m) else (0 : Int)) at_ x_1 es → eqS a.fst a_2.fst = false) →
 ∃ (x' : List Nat),
 (x'.Nodup ∧ ∀ (b : Nat), b ∈ x' → b ∈ List.map (fun (x : (ByteArray × Int) × Nat) => x.snd) es) ∧
 List.length es - x'.length < List.length es - x_1.length ∧
 ((AV.ptr (0 : Nat) hn (0 : Nat)).den = (AV.ptr (0 : Nat) hn (0 : Nat)).den ∧ (AV.v (Value.int IntKind.i64 (if IntKind.i64.wrap ((↑(at_.toNat - (0 : Nat) + (1 : Nat)) : Int) - m) > (0 : Int) then IntKind.i64.wrap ((↑(at_.toNat - (0 : Nat) + (1 : Nat)) : Int) - m) else (0 : Int)))).den = (AV.v (Value.int IntKind.i64 (if IntKind.i64.wrap ((↑(at_.toNat - (0 : Nat) + (1 : Nat)) : Int) - m) > (0 : Int) then IntKind.i64.wrap ((↑(at_.toNat - (0 : Nat) + (1 : Nat)) : Int) - m) else (0 : Int)))).den ∧ (AV.v (Value.int IntKind.i64 at_)).den = (AV.v (Value.int IntKind.i64 at_)).den ∧ (AV.ptr (5 : Nat) n5 (0 : Nat)).den = (AV.ptr (5 : Nat) n5 (0 : Nat)).den ∧ True) ∧
 LeH
 [Blk.mk hn (Cont.cells [AV.v (Value.int IntKind.i64 m), AV.v (Value.int IntKind.i64 at_), AV.sl (2 : Nat) an r (1 : Nat) len cap, AV.mp (1 : Nat) mn] (55 : Nat)) true, Blk.mk mn (Cont.mape (ByteArray × Int) kyM vlM mkM (kf (if IntKind.i64.wrap ((↑(at_.toNat - (0 : Nat) + (1 : Nat)) : Int) - m) > (0 : Int) then IntKind.i64.wrap ((↑(at_.toNat - (0 : Nat) + (1 : Nat)) : Int) - m) else (0 : Int)) at_ x_1 es) clock) true, Blk.mk an (Cont.rows N [Col.ints IntKind.i64 g] (3 : TypeId)) true, Blk.mk n1 (Cont.cells [AV.v (Value.int IntKind.i64 x)] (3 : Nat)) true,
 Blk.mk n2
 (Cont.rows n3
 [Col.ints IntKind.i64 fun (i : Nat) =>
 if i < at_.toNat - (0 : Nat) then g (r + i)
 else
 if i < at_.toNat - (0 : Nat) + (1 : Nat) then
 match asI IntKind.i64 ((nth [AV.v (Value.int IntKind.i64 x)] (((0 : Nat) + (i - (at_.toNat - (0 : Nat)))) * (1 : Nat) + nat_lit 0)).getD (AV.v undef)) with
 | some x => x
 | none => (0 : Int)
 else (0 : Int)]
 (3 : Nat))
 true,
 Blk.mk n5 (Cont.itere (1 : Nat) mn clock (n9 :: x_1)) true]
 [Blk.mk hn (Cont.cells [AV.v (Value.int IntKind.i64 m), AV.v (Value.int IntKind.i64 at_), AV.sl (2 : Nat) an r (1 : Nat) len cap, AV.mp (1 : Nat) mn] (55 : Nat)) true, Blk.mk mn (Cont.mape (ByteArray × Int) kyM vlM mkM (kf (if IntKind.i64.wrap ((↑(at_.toNat - (0 : Nat) + (1 : Nat)) : Int) - m) > (0 : Int) then IntKind.i64.wrap ((↑(at_.toNat - (0 : Nat) + (1 : Nat)) : Int) - m) else (0 : Int)) at_ x' es) clock) true, Blk.mk an (Cont.rows N [Col.ints IntKind.i64 g] (3 : TypeId)) true, Blk.mk n1 (Cont.cells [AV.v (Value.int IntKind.i64 x)] (3 : Nat)) true,
 Blk.mk n2
 (Cont.rows n3
 [Col.ints IntKind.i64 fun (i : Nat) =>
 if i < at_.toNat - (0 : Nat) then g (r + i)
 else
 if i < at_.toNat - (0 : Nat) + (1 : Nat) then
 match asI IntKind.i64 ((nth [AV.v (Value.int IntKind.i64 x)] (((0 : Nat) + (i - (at_.toNat - (0 : Nat)))) * (1 : Nat) + nat_lit 0)).getD (AV.v undef)) with
 | some x => x
 | none => (0 : Int)
 else (0 : Int)]
 (3 : Nat))
 true,
 Blk.mk n5 (Cont.itere (1 : Nat) mn clock x') true]))
 (hn = hn ∧
 mn = mn ∧
 (∀ (a_2 : ByteArray × Int) (n15 : Nat),
 (a_2, n15) ∈ kf (if IntKind.i64.wrap ((↑(at_.toNat - (0 : Nat) + (1 : Nat)) : Int) - m) > (0 : Int) then IntKind.i64.wrap ((↑(at_.toNat - (0 : Nat) + (1 : Nat)) : Int) - m) else (0 : Int)) at_ x_1 es →
 br (eqS a.fst a_2.fst)
 (∃ (x' : List Nat),
 (x'.Nodup ∧ ∀ (b : Nat), b ∈ x' → b ∈ List.map (fun (x : (ByteArray × Int) × Nat) => x.snd) es) ∧
 List.length es - x'.length < List.length es - x_1.length ∧
 ((AV.ptr (0 : Nat) hn (0 : Nat)).den = (AV.ptr (0 : Nat) hn (0 : Nat)).den ∧ (AV.v (Value.int IntKind.i64 (if IntKind.i64.wrap ((↑(at_.toNat - (0 : Nat) + (1 : Nat)) : Int) - m) > (0 : Int) then IntKind.i64.wrap ((↑(at_.toNat - (0 : Nat) + (1 : Nat)) : Int) - m) else (0 : Int)))).den = (AV.v (Value.int IntKind.i64 (if IntKind.i64.wrap ((↑(at_.toNat - (0 : Nat) + (1 : Nat)) : Int) - m) > (0 : Int) then IntKind.i64.wrap ((↑(at_.toNat - (0 : Nat) + (1 : Nat)) : Int) - m) else (0 : Int)))).den ∧ (AV.v (Value.int IntKind.i64 at_)).den = (AV.v (Value.int IntKind.i64 at_)).den ∧ (AV.ptr (5 : Nat) n5 (0 : Nat)).den = (AV.ptr (5 : Nat) n5 (0 : Nat)).den ∧ True) ∧
 LeH
 [Blk.mk hn (Cont.cells [AV.v (Value.int IntKind.i64 m), AV.v (Value.int IntKind.i64 at_), AV.sl (2 : Nat) an r (1 : Nat) len cap, AV.mp (1 : Nat) mn] (55 : Nat)) true, Blk.mk mn (Cont.mape (ByteArray × Int) kyM vlM mkM (setE (kf (if IntKind.i64.wrap ((↑(at_.toNat - (0 : Nat) + (1 : Nat)) : Int) - m) > (0 : Int) then IntKind.i64.wrap ((↑(at_.toNat - (0 : Nat) + (1 : Nat)) : Int) - m) else (0 : Int)) at_ x_1 es) n15 (a.fst, IntKind.i64.wrap (a.snd - if IntKind.i64.wrap ((↑(at_.toNat - (0 : Nat) + (1 : Nat)) : Int) - m) > (0 : Int) then IntKind.i64.wrap ((↑(at_.toNat - (0 : Nat) + (1 : Nat)) : Int) - m) else (0 : Int)))) clock) true, Blk.mk an (Cont.rows N [Col.ints IntKind.i64 g] (3 : TypeId)) true, Blk.mk n1 (Cont.cells [AV.v (Value.int IntKind.i64 x)] (3 : Nat)) true,
 Blk.mk n2
 (Cont.rows n3
 [Col.ints IntKind.i64 fun (i : Nat) =>
 if i < at_.toNat - (0 : Nat) then g (r + i)
 else
 if i < at_.toNat - (0 : Nat) + (1 : Nat) then
 match asI IntKind.i64 ((nth [AV.v (Value.int IntKind.i64 x)] (((0 : Nat) + (i - (at_.toNat - (0 : Nat)))) * (1 : Nat) + nat_lit 0)).getD (AV.v undef)) with
 | some x => x
 | none => (0 : Int)
 else (0 : Int)]
 (3 : Nat))
 true,
 Blk.mk n5 (Cont.itere (1 : Nat) mn clock (n9 :: x_1)) true]
 [Blk.mk hn (Cont.cells [AV.v (Value.int IntKind.i64 m), AV.v (Value.int IntKind.i64 at_), AV.sl (2 : Nat) an r (1 : Nat) len cap, AV.mp (1 : Nat) mn] (55 : Nat)) true, Blk.mk mn (Cont.mape (ByteArray × Int) kyM vlM mkM (kf (if IntKind.i64.wrap ((↑(at_.toNat - (0 : Nat) + (1 : Nat)) : Int) - m) > (0 : Int) then IntKind.i64.wrap ((↑(at_.toNat - (0 : Nat) + (1 : Nat)) : Int) - m) else (0 : Int)) at_ x' es) clock) true, Blk.mk an (Cont.rows N [Col.ints IntKind.i64 g] (3 : TypeId)) true, Blk.mk n1 (Cont.cells [AV.v (Value.int IntKind.i64 x)] (3 : Nat)) true,
 Blk.mk n2
 (Cont.rows n3
 [Col.ints IntKind.i64 fun (i : Nat) =>
 if i < at_.toNat - (0 : Nat) then g (r + i)
 else
 if i < at_.toNat - (0 : Nat) + (1 : Nat) then
 match asI IntKind.i64 ((nth [AV.v (Value.int IntKind.i64 x)] (((0 : Nat) + (i - (at_.toNat - (0 : Nat)))) * (1 : Nat) + nat_lit 0)).getD (AV.v undef)) with
 | some x => x
 | none => (0 : Int)
 else (0 : Int)]
 (3 : Nat))
 true,
 Blk.mk n5 (Cont.itere (1 : Nat) mn clock x') true])
 True) ∧
 ((∀ (a_2 : ByteArray × Int) (b : Nat), (a_2, b) ∈ kf (if IntKind.i64.wrap ((↑(at_.toNat - (0 : Nat) + (1 : Nat)) : Int) - m) > (0 : Int) then IntKind.i64.wrap ((↑(at_.toNat - (0 : Nat) + (1 : Nat)) : Int) - m) else (0 : Int)) at_ x_1 es → eqS a.fst a_2.fst = false) →
 ∃ (x' : List Nat),
 (x'.Nodup ∧ ∀ (b : Nat), b ∈ x' → b ∈ List.map (fun (x : (ByteArray × Int) × Nat) => x.snd) es) ∧
 List.length es - x'.length < List.length es - x_1.length ∧
 ((AV.ptr (0 : Nat) hn (0 : Nat)).den = (AV.ptr (0 : Nat) hn (0 : Nat)).den ∧ (AV.v (Value.int IntKind.i64 (if IntKind.i64.wrap ((↑(at_.toNat - (0 : Nat) + (1 : Nat)) : Int) - m) > (0 : Int) then IntKind.i64.wrap ((↑(at_.toNat - (0 : Nat) + (1 : Nat)) : Int) - m) else (0 : Int)))).den = (AV.v (Value.int IntKind.i64 (if IntKind.i64.wrap ((↑(at_.toNat - (0 : Nat) + (1 : Nat)) : Int) - m) > (0 : Int) then IntKind.i64.wrap ((↑(at_.toNat - (0 : Nat) + (1 : Nat)) : Int) - m) else (0 : Int)))).den ∧ (AV.v (Value.int IntKind.i64 at_)).den = (AV.v (Value.int IntKind.i64 at_)).den ∧ (AV.ptr (5 : Nat) n5 (0 : Nat)).den = (AV.ptr (5 : Nat) n5 (0 : Nat)).den ∧ True) ∧
 LeH
 [Blk.mk hn (Cont.cells [AV.v (Value.int IntKind.i64 m), AV.v (Value.int IntKind.i64 at_), AV.sl (2 : Nat) an r (1 : Nat) len cap, AV.mp (1 : Nat) mn] (55 : Nat)) true, Blk.mk mn (Cont.mape (ByteArray × Int) kyM vlM mkM (kf (if IntKind.i64.wrap ((↑(at_.toNat - (0 : Nat) + (1 : Nat)) : Int) - m) > (0 : Int) then IntKind.i64.wrap ((↑(at_.toNat - (0 : Nat) + (1 : Nat)) : Int) - m) else (0 : Int)) at_ x_1 es ++ [((a.fst, IntKind.i64.wrap (a.snd - if IntKind.i64.wrap ((↑(at_.toNat - (0 : Nat) + (1 : Nat)) : Int) - m) > (0 : Int) then IntKind.i64.wrap ((↑(at_.toNat - (0 : Nat) + (1 : Nat)) : Int) - m) else (0 : Int))), clock)]) (clock + (1 : Nat))) true, Blk.mk an (Cont.rows N [Col.ints IntKind.i64 g] (3 : TypeId)) true, Blk.mk n1 (Cont.cells [AV.v (Value.int IntKind.i64 x)] (3 : Nat)) true,
 Blk.mk n2
 (Cont.rows n3
 [Col.ints IntKind.i64 fun (i : Nat) =>
 if i < at_.toNat - (0 : Nat) then g (r + i)
 else
 if i < at_.toNat - (0 : Nat) + (1 : Nat) then
 match asI IntKind.i64 ((nth [AV.v (Value.int IntKind.i64 x)] (((0 : Nat) + (i - (at_.toNat - (0 : Nat)))) * (1 : Nat) + nat_lit 0)).getD (AV.v undef)) with
 | some x => x
 | none => (0 : Int)
 else (0 : Int)]
 (3 : Nat))
 true,
 Blk.mk n5 (Cont.itere (1 : Nat) mn clock (n9 :: x_1)) true]
 [Blk.mk hn (Cont.cells [AV.v (Value.int IntKind.i64 m), AV.v (Value.int IntKind.i64 at_), AV.sl (2 : Nat) an r (1 : Nat) len cap, AV.mp (1 : Nat) mn] (55 : Nat)) true, Blk.mk mn (Cont.mape (ByteArray × Int) kyM vlM mkM (kf (if IntKind.i64.wrap ((↑(at_.toNat - (0 : Nat) + (1 : Nat)) : Int) - m) > (0 : Int) then IntKind.i64.wrap ((↑(at_.toNat - (0 : Nat) + (1 : Nat)) : Int) - m) else (0 : Int)) at_ x' es) clock) true, Blk.mk an (Cont.rows N [Col.ints IntKind.i64 g] (3 : TypeId)) true, Blk.mk n1 (Cont.cells [AV.v (Value.int IntKind.i64 x)] (3 : Nat)) true,
 Blk.mk n2
 (Cont.rows n3
 [Col.ints IntKind.i64 fun (i : Nat) =>
 if i < at_.toNat - (0 : Nat) then g (r + i)
 else
 if i < at_.toNat - (0 : Nat) + (1 : Nat) then
 match asI IntKind.i64 ((nth [AV.v (Value.int IntKind.i64 x)] (((0 : Nat) + (i - (at_.toNat - (0 : Nat)))) * (1 : Nat) + nat_lit 0)).getD (AV.v undef)) with
 | some x => x
 | none => (0 : Int)
 else (0 : Int)]
 (3 : Nat))
 true,
 Blk.mk n5 (Cont.itere (1 : Nat) mn clock x') true])))) ∧
 ((∀ (a : ByteArray × Int) (b : Nat), (a, b) ∈ kf (if IntKind.i64.wrap ((↑(at_.toNat - (0 : Nat) + (1 : Nat)) : Int) - m) > (0 : Int) then IntKind.i64.wrap ((↑(at_.toNat - (0 : Nat) + (1 : Nat)) : Int) - m) else (0 : Int)) at_ x_1 es → b ∈ x_1) →
 (((0 : Int) ≤ if IntKind.i64.wrap ((↑(at_.toNat - (0 : Nat) + (1 : Nat)) : Int) - m) > (0 : Int) then IntKind.i64.wrap ((↑(at_.toNat - (0 : Nat) + (1 : Nat)) : Int) - m) else (0 : Int)) ∧ (if IntKind.i64.wrap ((↑(at_.toNat - (0 : Nat) + (1 : Nat)) : Int) - m) > (0 : Int) then IntKind.i64.wrap ((↑(at_.toNat - (0 : Nat) + (1 : Nat)) : Int) - m) else (0 : Int)) ≤ (↑(at_.toNat - (0 : Nat) + (1 : Nat)) : Int)) ∧
 at_.toNat - (0 : Nat) + (1 : Nat) ≤ n3 ∧
 hn = hn ∧
 hn = hn ∧
 hn = hn ∧
 R (AV.v (Value.int IntKind.i64 (0 : Int)))
 [Blk.mk hn (Cont.cells [AV.v (Value.int IntKind.i64 m), AV.v (Value.int IntKind.i64 (↑(at_.toNat - (0 : Nat) + (1 : Nat) - (if IntKind.i64.wrap ((↑(at_.toNat - (0 : Nat) + (1 : Nat)) : Int) - m) > (0 : Int) then IntKind.i64.wrap ((↑(at_.toNat - (0 : Nat) + (1 : Nat)) : Int) - m) else (0 : Int)).toNat) : Int)), AV.sl (4 : Nat) n2 (offB n3 (if IntKind.i64.wrap ((↑(at_.toNat - (0 : Nat) + (1 : Nat)) : Int) - m) > (0 : Int) then IntKind.i64.wrap ((↑(at_.toNat - (0 : Nat) + (1 : Nat)) : Int) - m) else (0 : Int)).toNat (at_.toNat - (0 : Nat) + (1 : Nat)) (0 : Nat)) (1 : Nat) (at_.toNat - (0 : Nat) + (1 : Nat) - (if IntKind.i64.wrap ((↑(at_.toNat - (0 : Nat) + (1 : Nat)) : Int) - m) > (0 : Int) then IntKind.i64.wrap ((↑(at_.toNat - (0 : Nat) + (1 : Nat)) : Int) - m) else (0 : Int)).toNat) (n3 - (if IntKind.i64.wrap ((↑(at_.toNat - (0 : Nat) + (1 : Nat)) : Int) - m) > (0 : Int) then IntKind.i64.wrap ((↑(at_.toNat - (0 : Nat) + (1 : Nat)) : Int) - m) else (0 : Int)).toNat), AV.mp (1 : Nat) mn] (55 : Nat)) true, Blk.mk mn (Cont.mape (ByteArray × Int) kyM vlM mkM (kf (if IntKind.i64.wrap ((↑(at_.toNat - (0 : Nat) + (1 : Nat)) : Int) - m) > (0 : Int) then IntKind.i64.wrap ((↑(at_.toNat - (0 : Nat) + (1 : Nat)) : Int) - m) else (0 : Int)) at_ x_1 es) clock) true, Blk.mk an (Cont.rows N [Col.ints IntKind.i64 g] (3 : TypeId)) true, Blk.mk n1 (Cont.cells [AV.v (Value.int IntKind.i64 x)] (3 : Nat)) true,
 Blk.mk n2
 (Cont.rows n3
 [Col.ints IntKind.i64 fun (i : Nat) =>
 if i < at_.toNat - (0 : Nat) then g (r + i)
 else
 if i < at_.toNat - (0 : Nat) + (1 : Nat) then
 match asI IntKind.i64 ((nth [AV.v (Value.int IntKind.i64 x)] (((0 : Nat) + (i - (at_.toNat - (0 : Nat)))) * (1 : Nat) + nat_lit 0)).getD (AV.v undef)) with
 | some x => x
 | none => (0 : Int)
 else (0 : Int)]
 (3 : Nat))
 true,
 Blk.mk n5 (Cont.itere (1 : Nat) mn clock x_1) true])))) : LC Try.prog 13 [.ptr 0 hn 0, .v (.int .i64 x)] [⟨hn, .cells [.v (.int .i64 m), .v (.int .i64 at_), .sl 2 an r 1 len cap, .mp 1 mn] 55, true⟩, ⟨mn, .mape (ByteArray × Int) kyM vlM mkM es clock, true⟩, ⟨an, .rows N [.ints .i64 g] 3, true⟩] R :=
  lc_of_exec (tbl := (tbE es)) tab_ok (tbE_ok es) mixed noinv 2 _ Try.func13 rfl Try.ntmps13 (by decide) (by kernel_rfl) (Nat.le_of_ble_eq_true rfl) (@Eq.mpr (execN tab (tbE es) noinv 2 Try.f13.ntmps [] none 0 (body Try.f13) (argsT [.ptr 0 hn 0, .v (.int .i64 x)] 0) [⟨hn, .cells [.v (.int .i64 m), .v (.int .i64 at_), .sl 2 an r 1 len cap, .mp 1 mn] 55, true⟩, ⟨mn, .mape (ByteArray × Int) kyM vlM mkM es clock, true⟩, ⟨an, .rows N [.ints .i64 g] 3, true⟩] (post Try.f13 tab (retK R))) _ (by kernel_rfl) h)

end Go.Proofs.Ytkjnkepdhbpnbaa

