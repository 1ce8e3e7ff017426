/- Csv: the program's Write: its condition. -/
import Derived.Test.YtdokphikobfakaaDoorN2
namespace Go.Eng
open Go.Sp

/-- Rows and fields that were written. -/
structure WX where
  i : Nat
  B : ByteArray
  S : List Nat

/-- What is known at the heads of the loops of Write. -/
def cwrJ (c : UInt8) (L : Nat) (g : Nat → RW) (F : Nat → Nat → ByteArray) : Nat → TT → HH → LI := fun b T H =>
  match b with
  | 0 => .inv Nat (fun i => ((18, .v (.int .i64 (i : Int))) :: keepT [0, 1, 16, 17] T, H)) (fun i => i ≤ L ∧ full i g) (fun i => L - i)
  | 2 =>
    match T.get 8 with
    | some (.ptr _ n _) => .inv WX (fun x => ((36, .v (.int .i64 (x.i : Int))) :: keepT [1, 8, 34, 35] T, H.set 2 (bB n x.B x.S))) (fun x => x.i ≤ L ∧ x.B.data.toList = rowsL c g F x.i) (fun x => L - x.i)
    | _ => .unroll 0
  | 4 =>
    match T.get 8, T.get 36 with
    | some (.ptr _ n _), some (.v (.int _ r)) => .inv WX (fun x => ((42, .v (.int .i64 (x.i : Int))) :: keepT [1, 8, 10, 34, 35, 36, 40, 41] T, H.set 2 (bB n x.B x.S))) (fun x => x.i ≤ (g r.toNat).len ∧ x.B.data.toList = upTo c g F r.toNat x.i) (fun x => (g r.toNat).len - x.i)
    | _, _ => .unroll 0
  | _ => .unroll 0

end Go.Eng
namespace Go.Proofs.YtdokphikobfakaaDoor
open Go Go.Eng Go.Sp
set_option linter.unusedVariables false
set_option linter.unusedSimpArgs false

/-- What a field needs. -/
def cneF : List AV → Option (Prop × AV)
  | [.v (.string s), .v (.bool a), .v (.int .u8 c)] => some (s.size < 4294967281, .v (.bool (needsB s a c.toNat.toUInt8)))
  | _ => none

theorem cne_ok : PrOk Tryd.prog 17 cneF := PrOk.of_lc (enters_of (c := body Tryd.f17) Tryd.func17 rfl (by kernel_rfl)) fun args p h hp => by
  unfold cneF at h
  split at h
  · cases h
    exact needs_lc _ _ _ hp
  · cases h

theorem bRaw_pack {n : Nat} {B : ByteArray} (h : B.size = 0) : LeB (bRaw n) (bB n B [n]) :=
  ⟨fun k hk => hk, fun h => h, fun w hw => pack_close (C := bldC) (x := (n, B)) (n := n) (H0 := [bRaw n]) (.inl ⟨h, rfl⟩) (fun b hb => by cases List.mem_singleton.1 hb; rfl) (holds_one hw)⟩


def csepI : Handler := inlH tab [] noinv 2 Tryd.f15 1

set_option maxRecDepth 100000 in
theorem csep_ok : HOk Tryd.prog 15 csepI :=
  inl_ok (tbl := []) tab_ok trivial mixed noinv 2 _ 1 Tryd.func15 rfl Tryd.ntmps15 (by decide) (by kernel_rfl) (Nat.le_of_ble_eq_true rfl)


def tw : Tbl := (4294967294, .ext mergeFlag) :: (15, .gen csepI) :: (10, .gen wideH) :: (17, .pre cneF) :: (18, .gen (glH replF)) :: (16, .gen wbH) :: (19, .gen wsH) :: (20, .gen bstrH) :: []

theorem tw_ok : TblOk Tryd.prog tw := ⟨flag_ok, csep_ok, cwideH_ok, cne_ok, repl_ok, wbH_ok, wsH_ok, bstrH_ok, trivial⟩


set_option maxRecDepth 100000 in
theorem cwr0_vc (a : Option Addr) (n o L cap : Nat) (g : Nat → RW) (F : Nat → Nat → ByteArray) (S : List Nat) (c m : Int) {R : AV → Prop} (h : (br (c != (0 : Int)) (br (c != (10 : Int)) (br (c != (13 : Int)) (br (!c != (34 : Int)) (R (AV.tup [AV.v (Value.string (ByteArray.mk #[])), AV.v (Value.int IntKind.i64 (2 : Int))])) ((∃ (x : Nat), (x ≤ L ∧ full x g) ∧ ((AV.v (Value.int IntKind.i64 (0 : Int))).den = (AV.v (Value.int IntKind.i64 (↑x : Int))).den ∧ (AV.os (1 : Nat) a n o (0 : Nat) (1 : Nat) L cap).den = (AV.os (1 : Nat) a n o (0 : Nat) (1 : Nat) L cap).den ∧ (AV.v (Value.int IntKind.u8 c)).den = (AV.v (Value.int IntKind.u8 c)).den ∧ (AV.os (1 : Nat) a n o (0 : Nat) (1 : Nat) L cap).den = (AV.os (1 : Nat) a n o (0 : Nat) (1 : Nat) L cap).den ∧ (AV.v (Value.int IntKind.i64 (↑L : Int))).den = (AV.v (Value.int IntKind.i64 (↑L : Int))).den ∧ True) ∧ LeH [Blk.mk (0 : Nat) (Cont.view (0 : Nat) (1 : Nat) [Col.ints IntKind.i64 fun (x : Nat) => m]) false, Blk.mk n (Cont.texts o L g F S false) false] [Blk.mk (0 : Nat) (Cont.view (0 : Nat) (1 : Nat) [Col.ints IntKind.i64 fun (x : Nat) => m]) false, Blk.mk n (Cont.texts o L g F S false) false]) ∧ ∀ (n1 : Nat), n1 ≤ L ∧ full n1 g → br (decide ((↑n1 : Int) < (↑L : Int))) (((0 : Int) ≤ (↑n1 : Int) ∧ (↑n1 : Int) < (↑L : Int)) ∧ n = n ∧ o = o ∧ (0 : Nat) + (↑n1 : Int).toNat < L ∧ br ((↑(g ((0 : Nat) + (↑n1 : Int).toNat)).len : Int) == (0 : Int)) (R (AV.tup [AV.v (Value.string (ByteArray.mk #[])), AV.v (Value.int IntKind.i64 (2 : Int))])) (∃ (x' : Nat), (x' ≤ L ∧ full x' g) ∧ L - x' < L - n1 ∧ ((AV.v (Value.int IntKind.i64 (IntKind.i64.wrap ((↑n1 : Int) + (1 : Int))))).den = (AV.v (Value.int IntKind.i64 (↑x' : Int))).den ∧ (AV.os (1 : Nat) a n o (0 : Nat) (1 : Nat) L cap).den = (AV.os (1 : Nat) a n o (0 : Nat) (1 : Nat) L cap).den ∧ (AV.v (Value.int IntKind.u8 c)).den = (AV.v (Value.int IntKind.u8 c)).den ∧ (AV.os (1 : Nat) a n o (0 : Nat) (1 : Nat) L cap).den = (AV.os (1 : Nat) a n o (0 : Nat) (1 : Nat) L cap).den ∧ (AV.v (Value.int IntKind.i64 (↑L : Int))).den = (AV.v (Value.int IntKind.i64 (↑L : Int))).den ∧ True) ∧ LeH [Blk.mk (0 : Nat) (Cont.view (0 : Nat) (1 : Nat) [Col.ints IntKind.i64 fun (x : Nat) => m]) false, Blk.mk n (Cont.texts o L g F S false) false] [Blk.mk (0 : Nat) (Cont.view (0 : Nat) (1 : Nat) [Col.ints IntKind.i64 fun (x : Nat) => m]) false, Blk.mk n (Cont.texts o L g F S false) false])) (br (decide ((↑L : Int) > (1048576 : Int))) (R (AV.tup [AV.v (Value.string (ByteArray.mk #[])), AV.v (Value.int IntKind.i64 (7 : Int))])) (∃ (g_1 : Nat → RW), ∃ (F_1 : Nat → Nat → ByteArray), ∃ (S_1 : List Nat), ∃ (w : Bool), some (Blk.mk n (Cont.texts o L g F S false) false) = some (Blk.mk n (Cont.texts o L g_1 F_1 S_1 false) w) ∧ L ≤ (9223372036854775807 : Nat) ∧ br (decide ((↑(wideN g_1 L) : Int) > (16384 : Int))) (R (AV.tup [AV.v (Value.string (ByteArray.mk #[])), AV.v (Value.int IntKind.i64 (7 : Int))])) (∀ (n7 : Nat), (∃ (x : WX), (x.i ≤ L ∧ x.2.data.toList = rowsL c.toNat.toUInt8 g F x.i) ∧ ((AV.v (Value.int IntKind.i64 (0 : Int))).den = (AV.v (Value.int IntKind.i64 (↑x.i : Int))).den ∧ (AV.v (Value.int IntKind.u8 c)).den = (AV.v (Value.int IntKind.u8 c)).den ∧ (AV.ptr (2 : Nat) n7 (0 : Nat)).den = (AV.ptr (2 : Nat) n7 (0 : Nat)).den ∧ (AV.os (1 : Nat) a n o (0 : Nat) (1 : Nat) L cap).den = (AV.os (1 : Nat) a n o (0 : Nat) (1 : Nat) L cap).den ∧ (AV.v (Value.int IntKind.i64 (↑L : Int))).den = (AV.v (Value.int IntKind.i64 (↑L : Int))).den ∧ True) ∧ LeH [Blk.mk (0 : Nat) (Cont.view (0 : Nat) (1 : Nat) [Col.ints IntKind.i64 fun (x : Nat) => m]) false, Blk.mk n (Cont.texts o L g F S false) false, Blk.mk n7 (Cont.cells [AV.v (Value.pointer none), AV.v (Value.slice none (0 : Nat) (0 : Nat))] (41 : Nat)) true] [Blk.mk (0 : Nat) (Cont.view (0 : Nat) (1 : Nat) [Col.ints IntKind.i64 fun (x : Nat) => m]) false, Blk.mk n (Cont.texts o L g F S false) false, Blk.mk n7 (Cont.res ((Nat × ByteArray) × List Nat) ((n7, x.2), x.S) (fun (x : (Nat × ByteArray) × List Nat) => x.snd) (packI bldC)) true]) ∧ ∀ (x : WX), x.i ≤ L ∧ x.2.data.toList = rowsL c.toNat.toUInt8 g F x.i → br (decide ((↑x.i : Int) < (↑L : Int))) (((0 : Int) ≤ (↑x.i : Int) ∧ (↑x.i : Int) < (↑L : Int)) ∧ n = n ∧ o = o ∧ (0 : Nat) + (↑x.i : Int).toNat < L ∧ (∃ (x_1 : WX), (x_1.i ≤ (g (↑x.i : Int).toNat).len ∧ x_1.2.data.toList = upTo c.toNat.toUInt8 g F (↑x.i : Int).toNat x_1.i) ∧ ((AV.v (Value.int IntKind.i64 (0 : Int))).den = (AV.v (Value.int IntKind.i64 (↑x_1.i : Int))).den ∧ (AV.v (Value.int IntKind.u8 c)).den = (AV.v (Value.int IntKind.u8 c)).den ∧ (AV.ptr (2 : Nat) n7 (0 : Nat)).den = (AV.ptr (2 : Nat) n7 (0 : Nat)).den ∧ (AV.os (1 : Nat) (g ((0 : Nat) + (↑x.i : Int).toNat)).a (g ((0 : Nat) + (↑x.i : Int).toNat)).n (g ((0 : Nat) + (↑x.i : Int).toNat)).o (0 : Nat) (1 : Nat) (g ((0 : Nat) + (↑x.i : Int).toNat)).len (g ((0 : Nat) + (↑x.i : Int).toNat)).cap).den = (AV.os (1 : Nat) (g ((0 : Nat) + (↑x.i : Int).toNat)).a (g ((0 : Nat) + (↑x.i : Int).toNat)).n (g ((0 : Nat) + (↑x.i : Int).toNat)).o (0 : Nat) (1 : Nat) (g ((0 : Nat) + (↑x.i : Int).toNat)).len (g ((0 : Nat) + (↑x.i : Int).toNat)).cap).den ∧ (AV.os (1 : Nat) a n o (0 : Nat) (1 : Nat) L cap).den = (AV.os (1 : Nat) a n o (0 : Nat) (1 : Nat) L cap).den ∧ (AV.v (Value.int IntKind.i64 (↑L : Int))).den = (AV.v (Value.int IntKind.i64 (↑L : Int))).den ∧ (AV.v (Value.int IntKind.i64 (↑x.i : Int))).den = (AV.v (Value.int IntKind.i64 (↑x.i : Int))).den ∧ (AV.os (1 : Nat) (g ((0 : Nat) + (↑x.i : Int).toNat)).a (g ((0 : Nat) + (↑x.i : Int).toNat)).n (g ((0 : Nat) + (↑x.i : Int).toNat)).o (0 : Nat) (1 : Nat) (g ((0 : Nat) + (↑x.i : Int).toNat)).len (g ((0 : Nat) + (↑x.i : Int).toNat)).cap).den = (AV.os (1 : Nat) (g ((0 : Nat) + (↑x.i : Int).toNat)).a (g ((0 : Nat) + (↑x.i : Int).toNat)).n (g ((0 : Nat) + (↑x.i : Int).toNat)).o (0 : Nat) (1 : Nat) (g ((0 : Nat) + (↑x.i : Int).toNat)).len (g ((0 : Nat) + (↑x.i : Int).toNat)).cap).den ∧ (AV.v (Value.int IntKind.i64 (↑(g ((0 : Nat) + (↑x.i : Int).toNat)).len : Int))).den = (AV.v (Value.int IntKind.i64 (↑(g ((0 : Nat) + (↑x.i : Int).toNat)).len : Int))).den ∧ True) ∧ LeH [Blk.mk (0 : Nat) (Cont.view (0 : Nat) (1 : Nat) [Col.ints IntKind.i64 fun (x : Nat) => m]) false, Blk.mk n (Cont.texts o L g F S false) false, Blk.mk n7 (Cont.res ((Nat × ByteArray) × List Nat) ((n7, x.2), x.S) (fun (x : (Nat × ByteArray) × List Nat) => x.snd) (packI bldC)) true] [Blk.mk (0 : Nat) (Cont.view (0 : Nat) (1 : Nat) [Col.ints IntKind.i64 fun (x : Nat) => m]) false, Blk.mk n (Cont.texts o L g F S false) false, Blk.mk n7 (Cont.res ((Nat × ByteArray) × List Nat) ((n7, x_1.2), x_1.S) (fun (x : (Nat × ByteArray) × List Nat) => x.snd) (packI bldC)) true]) ∧ ∀ (x_1 : WX), x_1.i ≤ (g (↑x.i : Int).toNat).len ∧ x_1.2.data.toList = upTo c.toNat.toUInt8 g F (↑x.i : Int).toNat x_1.i → br (decide ((↑x_1.i : Int) < (↑(g ((0 : Nat) + (↑x.i : Int).toNat)).len : Int))) (((0 : Int) ≤ (↑x_1.i : Int) ∧ (↑x_1.i : Int) < (↑(g ((0 : Nat) + (↑x.i : Int).toNat)).len : Int)) ∧ ∃ (q : Nat), q < L ∧ (g ((0 : Nat) + (↑x.i : Int).toNat)).n = (g q).n ∧ (g ((0 : Nat) + (↑x.i : Int).toNat)).o = (g q).o ∧ (0 : Nat) + (↑x_1.i : Int).toNat < (g q).len ∧ br (decide ((↑x_1.i : Int) > (0 : Int))) (∃ (B : ByteArray), ((∃ (S : List Nat), some (Blk.mk n7 (Cont.res ((Nat × ByteArray) × List Nat) ((n7, x_1.2), x_1.S) (fun (x : (Nat × ByteArray) × List Nat) => x.snd) (packI bldC)) true) = some (Blk.mk n7 (Cont.res ((Nat × ByteArray) × List Nat) ((n7, B), S) (fun (x : (Nat × ByteArray) × List Nat) => x.snd) (packI bldC)) true)) ∨ B.size = (0 : Nat) ∧ some (Blk.mk n7 (Cont.res ((Nat × ByteArray) × List Nat) ((n7, x_1.2), x_1.S) (fun (x : (Nat × ByteArray) × List Nat) => x.snd) (packI bldC)) true) = some (Blk.mk n7 (Cont.cells [AV.v (Value.pointer none), AV.v (Value.slice none (0 : Nat) (0 : Nat))] (41 : Nat)) true)) ∧ (0 : Int) ≤ c ∧ c ≤ (255 : Int) ∧ B.size ≤ (35184372088832 : Nat) ∧ ∀ (S' : List Nat), (F q ((0 : Nat) + (↑x_1.i : Int).toNat)).size < (4294967281 : Nat) ∧ br (needsB (F q ((0 : Nat) + (↑x_1.i : Int).toNat)) ((↑(g ((0 : Nat) + (↑x.i : Int).toNat)).len : Int) == (1 : Int)) c.toNat.toUInt8) (((F q ((0 : Nat) + (↑x_1.i : Int).toNat)).size < (4294967281 : Nat) ∧ (1 : Nat) ≤ (1 : Nat) ∧ (F q ((0 : Nat) + (↑x_1.i : Int).toNat)).size + Lib.countB (F q ((0 : Nat) + (↑x_1.i : Int).toNat)) (ByteArray.mk #[(34 : UInt8)]) * (2 : Nat) ≤ (140737488355328 : Nat)) ∧ (1 : Nat) + (mkS (Lib.replaceAll (F q ((0 : Nat) + (↑x_1.i : Int).toNat)).data.toList (ByteArray.mk #[(34 : UInt8)]).data.toList (ByteArray.mk #[(34 : UInt8), (34 : UInt8)]).data.toList)).size ≤ (9223372036854775807 : Nat) ∧ (catS (ByteArray.mk #[(34 : UInt8)]) (mkS (Lib.replaceAll (F q ((0 : Nat) + (↑x_1.i : Int).toNat)).data.toList (ByteArray.mk #[(34 : UInt8)]).data.toList (ByteArray.mk #[(34 : UInt8), (34 : UInt8)]).data.toList))).size + (1 : Nat) ≤ (9223372036854775807 : Nat) ∧ ∃ (B_1 : ByteArray), ((∃ (S : List Nat), some (Blk.mk n7 (Cont.res ((Nat × ByteArray) × List Nat) ((n7, pushB B c.toNat.toUInt8), S') (fun (x : (Nat × ByteArray) × List Nat) => x.snd) (packI bldC)) true) = some (Blk.mk n7 (Cont.res ((Nat × ByteArray) × List Nat) ((n7, B_1), S) (fun (x : (Nat × ByteArray) × List Nat) => x.snd) (packI bldC)) true)) ∨ B_1.size = (0 : Nat) ∧ some (Blk.mk n7 (Cont.res ((Nat × ByteArray) × List Nat) ((n7, pushB B c.toNat.toUInt8), S') (fun (x : (Nat × ByteArray) × List Nat) => x.snd) (packI bldC)) true) = some (Blk.mk n7 (Cont.cells [AV.v (Value.pointer none), AV.v (Value.slice none (0 : Nat) (0 : Nat))] (41 : Nat)) true)) ∧ B_1.size + (catS (catS (ByteArray.mk #[(34 : UInt8)]) (mkS (Lib.replaceAll (F q ((0 : Nat) + (↑x_1.i : Int).toNat)).data.toList (ByteArray.mk #[(34 : UInt8)]).data.toList (ByteArray.mk #[(34 : UInt8), (34 : UInt8)]).data.toList))) (ByteArray.mk #[(34 : UInt8)])).size ≤ (35184372088832 : Nat) ∧ ∀ (S' : List Nat), ∃ (x' : WX), (x'.i ≤ (g (↑x.i : Int).toNat).len ∧ x'.2.data.toList = upTo c.toNat.toUInt8 g F (↑x.i : Int).toNat x'.i) ∧ (g (↑x.i : Int).toNat).len - x'.i < (g (↑x.i : Int).toNat).len - x_1.i ∧ ((AV.v (Value.int IntKind.i64 (IntKind.i64.wrap ((↑x_1.i : Int) + (1 : Int))))).den = (AV.v (Value.int IntKind.i64 (↑x'.i : Int))).den ∧ (AV.v (Value.int IntKind.u8 c)).den = (AV.v (Value.int IntKind.u8 c)).den ∧ (AV.ptr (2 : Nat) n7 (0 : Nat)).den = (AV.ptr (2 : Nat) n7 (0 : Nat)).den ∧ (AV.os (1 : Nat) (g ((0 : Nat) + (↑x.i : Int).toNat)).a (g ((0 : Nat) + (↑x.i : Int).toNat)).n (g ((0 : Nat) + (↑x.i : Int).toNat)).o (0 : Nat) (1 : Nat) (g ((0 : Nat) + (↑x.i : Int).toNat)).len (g ((0 : Nat) + (↑x.i : Int).toNat)).cap).den = (AV.os (1 : Nat) (g ((0 : Nat) + (↑x.i : Int).toNat)).a (g ((0 : Nat) + (↑x.i : Int).toNat)).n (g ((0 : Nat) + (↑x.i : Int).toNat)).o (0 : Nat) (1 : Nat) (g ((0 : Nat) + (↑x.i : Int).toNat)).len (g ((0 : Nat) + (↑x.i : Int).toNat)).cap).den ∧ (AV.os (1 : Nat) a n o (0 : Nat) (1 : Nat) L cap).den = (AV.os (1 : Nat) a n o (0 : Nat) (1 : Nat) L cap).den ∧ (AV.v (Value.int IntKind.i64 (↑L : Int))).den = (AV.v (Value.int IntKind.i64 (↑L : Int))).den ∧ (AV.v (Value.int IntKind.i64 (↑x.i : Int))).den = (AV.v (Value.int IntKind.i64 (↑x.i : Int))).den ∧ (AV.os (1 : Nat) (g ((0 : Nat) + (↑x.i : Int).toNat)).a (g ((0 : Nat) + (↑x.i : Int).toNat)).n (g ((0 : Nat) + (↑x.i : Int).toNat)).o (0 : Nat) (1 : Nat) (g ((0 : Nat) + (↑x.i : Int).toNat)).len (g ((0 : Nat) + (↑x.i : Int).toNat)).cap).den = (AV.os (1 : Nat) (g ((0 : Nat) + (↑x.i : Int).toNat)).a (g ((0 : Nat) + (↑x.i : Int).toNat)).n (g ((0 : Nat) + (↑x.i : Int).toNat)).o (0 : Nat) (1 : Nat) (g ((0 : Nat) + (↑x.i : Int).toNat)).len (g ((0 : Nat) + (↑x.i : Int).toNat)).cap).den ∧ (AV.v (Value.int IntKind.i64 (↑(g ((0 : Nat) + (↑x.i : Int).toNat)).len : Int))).den = (AV.v (Value.int IntKind.i64 (↑(g ((0 : Nat) + (↑x.i : Int).toNat)).len : Int))).den ∧ True) ∧ LeH [Blk.mk (0 : Nat) (Cont.view (0 : Nat) (1 : Nat) [Col.ints IntKind.i64 fun (x : Nat) => m]) false, Blk.mk n (Cont.texts o L g F S false) false, Blk.mk n7 (Cont.res ((Nat × ByteArray) × List Nat) ((n7, catS B_1 (catS (catS (ByteArray.mk #[(34 : UInt8)]) (mkS (Lib.replaceAll (F q ((0 : Nat) + (↑x_1.i : Int).toNat)).data.toList (ByteArray.mk #[(34 : UInt8)]).data.toList (ByteArray.mk #[(34 : UInt8), (34 : UInt8)]).data.toList))) (ByteArray.mk #[(34 : UInt8)]))), S') (fun (x : (Nat × ByteArray) × List Nat) => x.snd) (packI bldC)) true] [Blk.mk (0 : Nat) (Cont.view (0 : Nat) (1 : Nat) [Col.ints IntKind.i64 fun (x : Nat) => m]) false, Blk.mk n (Cont.texts o L g F S false) false, Blk.mk n7 (Cont.res ((Nat × ByteArray) × List Nat) ((n7, x'.2), x'.S) (fun (x : (Nat × ByteArray) × List Nat) => x.snd) (packI bldC)) true]) (∃ (B_1 : ByteArray), ((∃ (S : List Nat), some (Blk.mk n7 (Cont.res ((Nat × ByteArray) × List Nat) ((n7, pushB B c.toNat.toUInt8), S') (fun (x : (Nat × ByteArray) × List Nat) => x.snd) (packI bldC)) true) = some (Blk.mk n7 (Cont.res ((Nat × ByteArray) × List Nat) ((n7, B_1), S) (fun (x : (Nat × ByteArray) × List Nat) => x.snd) (packI bldC)) true)) ∨ B_1.size = (0 : Nat) ∧ some (Blk.mk n7 (Cont.res ((Nat × ByteArray) × List Nat) ((n7, pushB B c.toNat.toUInt8), S') (fun (x : (Nat × ByteArray) × List Nat) => x.snd) (packI bldC)) true) = some (Blk.mk n7 (Cont.cells [AV.v (Value.pointer none), AV.v (Value.slice none (0 : Nat) (0 : Nat))] (41 : Nat)) true)) ∧ B_1.size + (F q ((0 : Nat) + (↑x_1.i : Int).toNat)).size ≤ (35184372088832 : Nat) ∧ ∀ (S' : List Nat), ∃ (x' : WX), (x'.i ≤ (g (↑x.i : Int).toNat).len ∧ x'.2.data.toList = upTo c.toNat.toUInt8 g F (↑x.i : Int).toNat x'.i) ∧ (g (↑x.i : Int).toNat).len - x'.i < (g (↑x.i : Int).toNat).len - x_1.i ∧ ((AV.v (Value.int IntKind.i64 (IntKind.i64.wrap ((↑x_1.i : Int) + (1 : Int))))).den = (AV.v (Value.int IntKind.i64 (↑x'.i : Int))).den ∧ (AV.v (Value.int IntKind.u8 c)).den = (AV.v (Value.int IntKind.u8 c)).den ∧ (AV.ptr (2 : Nat) n7 (0 : Nat)).den = (AV.ptr (2 : Nat) n7 (0 : Nat)).den ∧ (AV.os (1 : Nat) (g ((0 : Nat) + (↑x.i : Int).toNat)).a (g ((0 : Nat) + (↑x.i : Int).toNat)).n (g ((0 : Nat) + (↑x.i : Int).toNat)).o (0 : Nat) (1 : Nat) (g ((0 : Nat) + (↑x.i : Int).toNat)).len (g ((0 : Nat) + (↑x.i : Int).toNat)).cap).den = (AV.os (1 : Nat) (g ((0 : Nat) + (↑x.i : Int).toNat)).a (g ((0 : Nat) + (↑x.i : Int).toNat)).n (g ((0 : Nat) + (↑x.i : Int).toNat)).o (0 : Nat) (1 : Nat) (g ((0 : Nat) + (↑x.i : Int).toNat)).len (g ((0 : Nat) + (↑x.i : Int).toNat)).cap).den ∧ (AV.os (1 : Nat) a n o (0 : Nat) (1 : Nat) L cap).den = (AV.os (1 : Nat) a n o (0 : Nat) (1 : Nat) L cap).den ∧ (AV.v (Value.int IntKind.i64 (↑L : Int))).den = (AV.v (Value.int IntKind.i64 (↑L : Int))).den ∧ (AV.v (Value.int IntKind.i64 (↑x.i : Int))).den = (AV.v (Value.int IntKind.i64 (↑x.i : Int))).den ∧ (AV.os (1 : Nat) (g ((0 : Nat) + (↑x.i : Int).toNat)).a (g ((0 : Nat) + (↑x.i : Int).toNat)).n (g ((0 : Nat) + (↑x.i : Int).toNat)).o (0 : Nat) (1 : Nat) (g ((0 : Nat) + (↑x.i : Int).toNat)).len (g ((0 : Nat) + (↑x.i : Int).toNat)).cap).den = (AV.os (1 : Nat) (g ((0 : Nat) + (↑x.i : Int).toNat)).a (g ((0 : Nat) + (↑x.i : Int).toNat)).n (g ((0 : Nat) + (↑x.i : Int).toNat)).o (0 : Nat) (1 : Nat) (g ((0 : Nat) + (↑x.i : Int).toNat)).len (g ((0 : Nat) + (↑x.i : Int).toNat)).cap).den ∧ (AV.v (Value.int IntKind.i64 (↑(g ((0 : Nat) + (↑x.i : Int).toNat)).len : Int))).den = (AV.v (Value.int IntKind.i64 (↑(g ((0 : Nat) + (↑x.i : Int).toNat)).len : Int))).den ∧ True) ∧ LeH [Blk.mk (0 : Nat) (Cont.view (0 : Nat) (1 : Nat) [Col.ints IntKind.i64 fun (x : Nat) => m]) false, Blk.mk n (Cont.texts o L g F S false) false, Blk.mk n7 (Cont.res ((Nat × ByteArray) × List Nat) ((n7, catS B_1 (F q ((0 : Nat) + (↑x_1.i : Int).toNat))), S') (fun (x : (Nat × ByteArray) × List Nat) => x.snd) (packI bldC)) true] [Blk.mk (0 : Nat) (Cont.view (0 : Nat) (1 : Nat) [Col.ints IntKind.i64 fun (x : Nat) => m]) false, Blk.mk n (Cont.texts o L g F S false) false, Blk.mk n7 (Cont.res ((Nat × ByteArray) × List Nat) ((n7, x'.2), x'.S) (fun (x : (Nat × ByteArray) × List Nat) => x.snd) (packI bldC)) true])) ((F q ((0 : Nat) + (↑x_1.i : Int).toNat)).size < (4294967281 : Nat) ∧ br (needsB (F q ((0 : Nat) + (↑x_1.i : Int).toNat)) ((↑(g ((0 : Nat) + (↑x.i : Int).toNat)).len : Int) == (1 : Int)) c.toNat.toUInt8) (((F q ((0 : Nat) + (↑x_1.i : Int).toNat)).size < (4294967281 : Nat) ∧ (1 : Nat) ≤ (1 : Nat) ∧ (F q ((0 : Nat) + (↑x_1.i : Int).toNat)).size + Lib.countB (F q ((0 : Nat) + (↑x_1.i : Int).toNat)) (ByteArray.mk #[(34 : UInt8)]) * (2 : Nat) ≤ (140737488355328 : Nat)) ∧ (1 : Nat) + (mkS (Lib.replaceAll (F q ((0 : Nat) + (↑x_1.i : Int).toNat)).data.toList (ByteArray.mk #[(34 : UInt8)]).data.toList (ByteArray.mk #[(34 : UInt8), (34 : UInt8)]).data.toList)).size ≤ (9223372036854775807 : Nat) ∧ (catS (ByteArray.mk #[(34 : UInt8)]) (mkS (Lib.replaceAll (F q ((0 : Nat) + (↑x_1.i : Int).toNat)).data.toList (ByteArray.mk #[(34 : UInt8)]).data.toList (ByteArray.mk #[(34 : UInt8), (34 : UInt8)]).data.toList))).size + (1 : Nat) ≤ (9223372036854775807 : Nat) ∧ ∃ (B : ByteArray), ((∃ (S : List Nat), some (Blk.mk n7 (Cont.res ((Nat × ByteArray) × List Nat) ((n7, x_1.2), x_1.S) (fun (x : (Nat × ByteArray) × List Nat) => x.snd) (packI bldC)) true) = some (Blk.mk n7 (Cont.res ((Nat × ByteArray) × List Nat) ((n7, B), S) (fun (x : (Nat × ByteArray) × List Nat) => x.snd) (packI bldC)) true)) ∨ B.size = (0 : Nat) ∧ some (Blk.mk n7 (Cont.res ((Nat × ByteArray) × List Nat) ((n7, x_1.2), x_1.S) (fun (x : (Nat × ByteArray) × List Nat) => x.snd) (packI bldC)) true) = some (Blk.mk n7 (Cont.cells [AV.v (Value.pointer none), AV.v (Value.slice none (0 : Nat) (0 : Nat))] (41 : Nat)) true)) ∧ B.size + (catS (catS (ByteArray.mk #[(34 : UInt8)]) (mkS (Lib.replaceAll (F q ((0 : Nat) + (↑x_1.i : Int).toNat)).data.toList (ByteArray.mk #[(34 : UInt8)]).data.toList (ByteArray.mk #[(34 : UInt8), (34 : UInt8)]).data.toList))) (ByteArray.mk #[(34 : UInt8)])).size ≤ (35184372088832 : Nat) ∧ ∀ (S' : List Nat), ∃ (x' : WX), (x'.i ≤ (g (↑x.i : Int).toNat).len ∧ x'.2.data.toList = upTo c.toNat.toUInt8 g F (↑x.i : Int).toNat x'.i) ∧ (g (↑x.i : Int).toNat).len - x'.i < (g (↑x.i : Int).toNat).len - x_1.i ∧ ((AV.v (Value.int IntKind.i64 (IntKind.i64.wrap ((↑x_1.i : Int) + (1 : Int))))).den = (AV.v (Value.int IntKind.i64 (↑x'.i : Int))).den ∧ (AV.v (Value.int IntKind.u8 c)).den = (AV.v (Value.int IntKind.u8 c)).den ∧ (AV.ptr (2 : Nat) n7 (0 : Nat)).den = (AV.ptr (2 : Nat) n7 (0 : Nat)).den ∧ (AV.os (1 : Nat) (g ((0 : Nat) + (↑x.i : Int).toNat)).a (g ((0 : Nat) + (↑x.i : Int).toNat)).n (g ((0 : Nat) + (↑x.i : Int).toNat)).o (0 : Nat) (1 : Nat) (g ((0 : Nat) + (↑x.i : Int).toNat)).len (g ((0 : Nat) + (↑x.i : Int).toNat)).cap).den = (AV.os (1 : Nat) (g ((0 : Nat) + (↑x.i : Int).toNat)).a (g ((0 : Nat) + (↑x.i : Int).toNat)).n (g ((0 : Nat) + (↑x.i : Int).toNat)).o (0 : Nat) (1 : Nat) (g ((0 : Nat) + (↑x.i : Int).toNat)).len (g ((0 : Nat) + (↑x.i : Int).toNat)).cap).den ∧ (AV.os (1 : Nat) a n o (0 : Nat) (1 : Nat) L cap).den = (AV.os (1 : Nat) a n o (0 : Nat) (1 : Nat) L cap).den ∧ (AV.v (Value.int IntKind.i64 (↑L : Int))).den = (AV.v (Value.int IntKind.i64 (↑L : Int))).den ∧ (AV.v (Value.int IntKind.i64 (↑x.i : Int))).den = (AV.v (Value.int IntKind.i64 (↑x.i : Int))).den ∧ (AV.os (1 : Nat) (g ((0 : Nat) + (↑x.i : Int).toNat)).a (g ((0 : Nat) + (↑x.i : Int).toNat)).n (g ((0 : Nat) + (↑x.i : Int).toNat)).o (0 : Nat) (1 : Nat) (g ((0 : Nat) + (↑x.i : Int).toNat)).len (g ((0 : Nat) + (↑x.i : Int).toNat)).cap).den = (AV.os (1 : Nat) (g ((0 : Nat) + (↑x.i : Int).toNat)).a (g ((0 : Nat) + (↑x.i : Int).toNat)).n (g ((0 : Nat) + (↑x.i : Int).toNat)).o (0 : Nat) (1 : Nat) (g ((0 : Nat) + (↑x.i : Int).toNat)).len (g ((0 : Nat) + (↑x.i : Int).toNat)).cap).den ∧ (AV.v (Value.int IntKind.i64 (↑(g ((0 : Nat) + (↑x.i : Int).toNat)).len : Int))).den = (AV.v (Value.int IntKind.i64 (↑(g ((0 : Nat) + (↑x.i : Int).toNat)).len : Int))).den ∧ True) ∧ LeH [Blk.mk (0 : Nat) (Cont.view (0 : Nat) (1 : Nat) [Col.ints IntKind.i64 fun (x : Nat) => m]) false, Blk.mk n (Cont.texts o L g F S false) false, Blk.mk n7 (Cont.res ((Nat × ByteArray) × List Nat) ((n7, catS B (catS (catS (ByteArray.mk #[(34 : UInt8)]) (mkS (Lib.replaceAll (F q ((0 : Nat) + (↑x_1.i : Int).toNat)).data.toList (ByteArray.mk #[(34 : UInt8)]).data.toList (ByteArray.mk #[(34 : UInt8), (34 : UInt8)]).data.toList))) (ByteArray.mk #[(34 : UInt8)]))), S') (fun (x : (Nat × ByteArray) × List Nat) => x.snd) (packI bldC)) true] [Blk.mk (0 : Nat) (Cont.view (0 : Nat) (1 : Nat) [Col.ints IntKind.i64 fun (x : Nat) => m]) false, Blk.mk n (Cont.texts o L g F S false) false, Blk.mk n7 (Cont.res ((Nat × ByteArray) × List Nat) ((n7, x'.2), x'.S) (fun (x : (Nat × ByteArray) × List Nat) => x.snd) (packI bldC)) true]) (∃ (B : ByteArray), ((∃ (S : List Nat), some (Blk.mk n7 (Cont.res ((Nat × ByteArray) × List Nat) ((n7, x_1.2), x_1.S) (fun (x : (Nat × ByteArray) × List Nat) => x.snd) (packI bldC)) true) = some (Blk.mk n7 (Cont.res ((Nat × ByteArray) × List Nat) ((n7, B), S) (fun (x : (Nat × ByteArray) × List Nat) => x.snd) (packI bldC)) true)) ∨ B.size = (0 : Nat) ∧ some (Blk.mk n7 (Cont.res ((Nat × ByteArray) × List Nat) ((n7, x_1.2), x_1.S) (fun (x : (Nat × ByteArray) × List Nat) => x.snd) (packI bldC)) true) = some (Blk.mk n7 (Cont.cells [AV.v (Value.pointer none), AV.v (Value.slice none (0 : Nat) (0 : Nat))] (41 : Nat)) true)) ∧ B.size + (F q ((0 : Nat) + (↑x_1.i : Int).toNat)).size ≤ (35184372088832 : Nat) ∧ ∀ (S' : List Nat), ∃ (x' : WX), (x'.i ≤ (g (↑x.i : Int).toNat).len ∧ x'.2.data.toList = upTo c.toNat.toUInt8 g F (↑x.i : Int).toNat x'.i) ∧ (g (↑x.i : Int).toNat).len - x'.i < (g (↑x.i : Int).toNat).len - x_1.i ∧ ((AV.v (Value.int IntKind.i64 (IntKind.i64.wrap ((↑x_1.i : Int) + (1 : Int))))).den = (AV.v (Value.int IntKind.i64 (↑x'.i : Int))).den ∧ (AV.v (Value.int IntKind.u8 c)).den = (AV.v (Value.int IntKind.u8 c)).den ∧ (AV.ptr (2 : Nat) n7 (0 : Nat)).den = (AV.ptr (2 : Nat) n7 (0 : Nat)).den ∧ (AV.os (1 : Nat) (g ((0 : Nat) + (↑x.i : Int).toNat)).a (g ((0 : Nat) + (↑x.i : Int).toNat)).n (g ((0 : Nat) + (↑x.i : Int).toNat)).o (0 : Nat) (1 : Nat) (g ((0 : Nat) + (↑x.i : Int).toNat)).len (g ((0 : Nat) + (↑x.i : Int).toNat)).cap).den = (AV.os (1 : Nat) (g ((0 : Nat) + (↑x.i : Int).toNat)).a (g ((0 : Nat) + (↑x.i : Int).toNat)).n (g ((0 : Nat) + (↑x.i : Int).toNat)).o (0 : Nat) (1 : Nat) (g ((0 : Nat) + (↑x.i : Int).toNat)).len (g ((0 : Nat) + (↑x.i : Int).toNat)).cap).den ∧ (AV.os (1 : Nat) a n o (0 : Nat) (1 : Nat) L cap).den = (AV.os (1 : Nat) a n o (0 : Nat) (1 : Nat) L cap).den ∧ (AV.v (Value.int IntKind.i64 (↑L : Int))).den = (AV.v (Value.int IntKind.i64 (↑L : Int))).den ∧ (AV.v (Value.int IntKind.i64 (↑x.i : Int))).den = (AV.v (Value.int IntKind.i64 (↑x.i : Int))).den ∧ (AV.os (1 : Nat) (g ((0 : Nat) + (↑x.i : Int).toNat)).a (g ((0 : Nat) + (↑x.i : Int).toNat)).n (g ((0 : Nat) + (↑x.i : Int).toNat)).o (0 : Nat) (1 : Nat) (g ((0 : Nat) + (↑x.i : Int).toNat)).len (g ((0 : Nat) + (↑x.i : Int).toNat)).cap).den = (AV.os (1 : Nat) (g ((0 : Nat) + (↑x.i : Int).toNat)).a (g ((0 : Nat) + (↑x.i : Int).toNat)).n (g ((0 : Nat) + (↑x.i : Int).toNat)).o (0 : Nat) (1 : Nat) (g ((0 : Nat) + (↑x.i : Int).toNat)).len (g ((0 : Nat) + (↑x.i : Int).toNat)).cap).den ∧ (AV.v (Value.int IntKind.i64 (↑(g ((0 : Nat) + (↑x.i : Int).toNat)).len : Int))).den = (AV.v (Value.int IntKind.i64 (↑(g ((0 : Nat) + (↑x.i : Int).toNat)).len : Int))).den ∧ True) ∧ LeH [Blk.mk (0 : Nat) (Cont.view (0 : Nat) (1 : Nat) [Col.ints IntKind.i64 fun (x : Nat) => m]) false, Blk.mk n (Cont.texts o L g F S false) false, Blk.mk n7 (Cont.res ((Nat × ByteArray) × List Nat) ((n7, catS B (F q ((0 : Nat) + (↑x_1.i : Int).toNat))), S') (fun (x : (Nat × ByteArray) × List Nat) => x.snd) (packI bldC)) true] [Blk.mk (0 : Nat) (Cont.view (0 : Nat) (1 : Nat) [Col.ints IntKind.i64 fun (x : Nat) => m]) false, Blk.mk n (Cont.texts o L g F S false) false, Blk.mk n7 (Cont.res ((Nat × ByteArray) × List Nat) ((n7, x'.2), x'.S) (fun (x : (Nat × ByteArray) × List Nat) => x.snd) (packI bldC)) true]))) (∃ (B : ByteArray), ((∃ (S : List Nat), some (Blk.mk n7 (Cont.res ((Nat × ByteArray) × List Nat) ((n7, x_1.2), x_1.S) (fun (x : (Nat × ByteArray) × List Nat) => x.snd) (packI bldC)) true) = some (Blk.mk n7 (Cont.res ((Nat × ByteArray) × List Nat) ((n7, B), S) (fun (x : (Nat × ByteArray) × List Nat) => x.snd) (packI bldC)) true)) ∨ B.size = (0 : Nat) ∧ some (Blk.mk n7 (Cont.res ((Nat × ByteArray) × List Nat) ((n7, x_1.2), x_1.S) (fun (x : (Nat × ByteArray) × List Nat) => x.snd) (packI bldC)) true) = some (Blk.mk n7 (Cont.cells [AV.v (Value.pointer none), AV.v (Value.slice none (0 : Nat) (0 : Nat))] (41 : Nat)) true)) ∧ (0 : Int) ≤ (10 : Int) ∧ (10 : Int) ≤ (255 : Int) ∧ B.size ≤ (35184372088832 : Nat) ∧ ∀ (S' : List Nat), ∃ (x' : WX), (x'.i ≤ L ∧ x'.2.data.toList = rowsL c.toNat.toUInt8 g F x'.i) ∧ L - x'.i < L - x.i ∧ ((AV.v (Value.int IntKind.i64 (IntKind.i64.wrap ((↑x.i : Int) + (1 : Int))))).den = (AV.v (Value.int IntKind.i64 (↑x'.i : Int))).den ∧ (AV.v (Value.int IntKind.u8 c)).den = (AV.v (Value.int IntKind.u8 c)).den ∧ (AV.ptr (2 : Nat) n7 (0 : Nat)).den = (AV.ptr (2 : Nat) n7 (0 : Nat)).den ∧ (AV.os (1 : Nat) a n o (0 : Nat) (1 : Nat) L cap).den = (AV.os (1 : Nat) a n o (0 : Nat) (1 : Nat) L cap).den ∧ (AV.v (Value.int IntKind.i64 (↑L : Int))).den = (AV.v (Value.int IntKind.i64 (↑L : Int))).den ∧ True) ∧ LeH [Blk.mk (0 : Nat) (Cont.view (0 : Nat) (1 : Nat) [Col.ints IntKind.i64 fun (x : Nat) => m]) false, Blk.mk n (Cont.texts o L g F S false) false, Blk.mk n7 (Cont.res ((Nat × ByteArray) × List Nat) ((n7, pushB B (Nat.toUInt8 (10 : Nat))), S') (fun (x : (Nat × ByteArray) × List Nat) => x.snd) (packI bldC)) true] [Blk.mk (0 : Nat) (Cont.view (0 : Nat) (1 : Nat) [Col.ints IntKind.i64 fun (x : Nat) => m]) false, Blk.mk n (Cont.texts o L g F S false) false, Blk.mk n7 (Cont.res ((Nat × ByteArray) × List Nat) ((n7, x'.2), x'.S) (fun (x : (Nat × ByteArray) × List Nat) => x.snd) (packI bldC)) true])) (∃ (B : ByteArray), ((∃ (S : List Nat), some (Blk.mk n7 (Cont.res ((Nat × ByteArray) × List Nat) ((n7, x.2), x.S) (fun (x : (Nat × ByteArray) × List Nat) => x.snd) (packI bldC)) true) = some (Blk.mk n7 (Cont.res ((Nat × ByteArray) × List Nat) ((n7, B), S) (fun (x : (Nat × ByteArray) × List Nat) => x.snd) (packI bldC)) true)) ∨ B.size = (0 : Nat) ∧ some (Blk.mk n7 (Cont.res ((Nat × ByteArray) × List Nat) ((n7, x.2), x.S) (fun (x : (Nat × ByteArray) × List Nat) => x.snd) (packI bldC)) true) = some (Blk.mk n7 (Cont.cells [AV.v (Value.pointer none), AV.v (Value.slice none (0 : Nat) (0 : Nat))] (41 : Nat)) true)) ∧ ∀ (S' : List Nat), R (AV.tup [AV.v (Value.string B), AV.v (Value.int IntKind.i64 (0 : Int))]))))))) (R (AV.tup [AV.v (Value.string (ByteArray.mk #[])), AV.v (Value.int IntKind.i64 (2 : Int))]))) (R (AV.tup [AV.v (Value.string (ByteArray.mk #[])), AV.v (Value.int IntKind.i64 (2 : Int))]))) (R (AV.tup [AV.v (Value.string (ByteArray.mk #[])), AV.v (Value.int IntKind.i64 (2 : Int))])))) : LC Tryd.prog 8 [.os 1 a n o 0 1 L cap, .v (.int .u8 c)] [gB m, ⟨n, .texts o L g F S false, false⟩] (fun z_ _ => R z_) :=
  lc_of_exec (tbl := tw) tab_ok tw_ok mixed ((cwrJ c.toNat.toUInt8 L g F)) 2 _ Tryd.func8 rfl Tryd.ntmps8 (by decide) (by kernel_rfl) (Nat.le_of_ble_eq_true rfl) (@Eq.mpr (execN tab tw ((cwrJ c.toNat.toUInt8 L g F)) 2 Tryd.f8.ntmps [] none 0 (body Tryd.f8) (argsT [.os 1 a n o 0 1 L cap, .v (.int .u8 c)] 0) [gB m, ⟨n, .texts o L g F S false, false⟩] (post Tryd.f8 tab (retK (fun z_ _ => R z_)))) _ (by kernel_rfl) h)

end Go.Proofs.YtdokphikobfakaaDoor

namespace Go.Proofs.YtdokphikobfakaaDoor
open Go Go.Eng Go.Sp
set_option linter.unusedVariables false
set_option linter.unusedSimpArgs false

/-- A quoted field. -/
theorem toList_quoted (s : ByteArray) : (catS (catS (ByteArray.mk #[(34 : UInt8)]) (mkS (Lib.replaceAll s.data.toList (ByteArray.mk #[(34 : UInt8)]).data.toList (ByteArray.mk #[(34 : UInt8), (34 : UInt8)]).data.toList))) (ByteArray.mk #[(34 : UInt8)])).data.toList = 34 :: quoteL s.data.toList ++ [34] := by
  rw [toList_catS, toList_catS]
  have := replaceAll_quote s.data.toList
  show [34] ++ (mkS (Lib.replaceAll s.data.toList [34] [34, 34])).data.toList ++ [34] = _
  rw [this]
  rfl

theorem size_catS' {A B : ByteArray} : (catS A B).size = A.size + B.size := size_catS ..

theorem mkS_eq {B : ByteArray} {l : List UInt8} (h : B.data.toList = l) : B = mkS l := by
  apply ByteArray.ext
  apply Array.ext'
  rw [h]; rfl

set_option maxRecDepth 20000 in
set_option maxHeartbeats 8000000 in
theorem cwr_lc (a : Option Addr) (n o L cap : Nat) (g : Nat → RW) (F : Nat → Nat → ByteArray) (S : List Nat) (c m : Int) (h0 : 0 ≤ c) (h1 : c ≤ 255) (hL : L ≤ 1099511627776) (hT : (rowsL c.toNat.toUInt8 g F L).length ≤ 1099511627776)
    (hlen : ∀ i, i < L → (g i).len ≤ 1099511627776) (hF : ∀ i k, i < L → k < (g i).len → (F i k).size < 4294967281) :
    LC Tryd.prog 8 [.os 1 a n o 0 1 L cap, .v (.int .u8 c)] [gB m, ⟨n, .texts o L g F S false, false⟩] (fun z _ => z = wrV c L g F) :=
  cwr0_vc a n o L cap g F S c m (by
    generalize hcu : c.toNat.toUInt8 = cu at hT ⊢
    refine br_intro (fun c0 => br_intro (fun c1 => br_intro (fun c2 => br_intro (fun c3 => ?_) (fun c3 => ?_)) (fun c2 => ?_)) (fun c1 => ?_)) (fun c0 => ?_)
    · refine (wrV_arg (.inl fun h => ?_)).symm
      simp at c3; exact h.2.2.2 c3
    rotate_left
    · refine (wrV_arg (.inl fun h => ?_)).symm
      simp at c2; exact h.2.2.1 c2
    · refine (wrV_arg (.inl fun h => ?_)).symm
      simp at c1; exact h.2.1 c1
    · refine (wrV_arg (.inl fun h => ?_)).symm
      simp at c0; exact h.1 c0
    have hsep : sepOk c := by simp at c0 c1 c2 c3; exact ⟨c0, c1, c2, c3⟩
    refine ⟨⟨0, ⟨Nat.zero_le _, fun q hq => absurd hq (Nat.not_lt_zero _)⟩, ⟨rfl, rfl, rfl, rfl, rfl, trivial⟩, LeH.refl _⟩, fun i hi => br_intro (fun hlt => ?_) (fun hge => ?_)⟩
    · have hlt : i < L := by have := of_decide_eq_true hlt; omega
      simp only [Int.toNat_natCast, Nat.zero_add]
      refine ⟨⟨by omega, by omega⟩, trivial, trivial, hlt, br_intro (fun hz => ?_) (fun hz => ⟨i + 1, ⟨hlt, fun q hq => ?_⟩, by omega, ⟨i6_step (by omega), trivial, trivial, trivial, trivial, trivial⟩, LeH.refl _⟩)⟩
      · refine (wrV_arg (.inr fun h => ?_)).symm
        have := h i hlt
        simp at hz; omega
      · rcases Nat.lt_or_ge q i with h3 | h3
        · exact hi.2 q h3
        · obtain rfl : q = i := by omega
          simp at hz; omega
    have hfull : full L g := by
      have := of_decide_eq_false hge
      obtain rfl : i = L := by have := hi.1; omega
      exact hi.2
    refine br_intro (fun hbig => ?_) (fun hbig => ⟨g, F, S, false, rfl, by omega, br_intro (fun hw => ?_) (fun hw => ?_)⟩)
    · exact (wrV_big hsep hfull (.inl (by have := of_decide_eq_true hbig; omega))).symm
    · exact (wrV_big hsep hfull (.inr (by have := of_decide_eq_true hw; omega))).symm
    have hsm : ¬ (1048576 < L ∨ 16384 < wideN g L) := by
      have := of_decide_eq_false hbig
      have := of_decide_eq_false hw
      omega
    intro n7
    refine ⟨⟨⟨0, ByteArray.mk #[], [n7]⟩, ⟨Nat.zero_le _, rfl⟩, ⟨rfl, rfl, rfl, rfl, rfl, trivial⟩, leAt [0, 1, 2] (by decide) ⟨LeB.refl _, LeB.refl _, bRaw_pack rfl, trivial⟩⟩, fun x hx => br_intro (fun hlt => ?_) (fun hge => ?_)⟩
    rotate_left
    · -- all is written
      obtain ⟨x1, x3⟩ := hx
      have hxi : x.i = L := by have := of_decide_eq_false hge; omega
      rw [wrV_ok hsep hfull hsm, hcu, ← hxi, ← mkS_eq x3]
      exact ⟨x.B, .inl ⟨_, rfl⟩, fun _ => rfl⟩
    obtain ⟨x1, x3⟩ := hx
    have hr : x.i < L := by have := of_decide_eq_true hlt; omega
    have hlr := hlen x.i hr
    simp only [Int.toNat_natCast, Nat.zero_add]
    refine ⟨⟨by omega, by omega⟩, trivial, trivial, hr, ⟨⟨0, x.B, x.S⟩, ⟨Nat.zero_le _, by rw [upTo_zero]; exact x3⟩, ⟨rfl, trivial, trivial, trivial, trivial, trivial, trivial, trivial, trivial, trivial⟩, LeH.refl _⟩, fun y hy => br_intro (fun hlt => ?_) (fun hge => ?_)⟩
    rotate_left
    · -- the row ends
      obtain ⟨y1, y3⟩ := hy
      have hyk : y.i = (g x.i).len := by have := of_decide_eq_false hge; omega
      have hyl := bsize y3
      have hroom := upTo_len cu g F (L := L) hr y1
      refine ⟨y.B, .inl ⟨_, rfl⟩, by decide, by decide, by omega, fun S' => ⟨⟨x.i + 1, pushB y.B 10, S'⟩, ⟨hr, ?_⟩, by show L - (x.i + 1) < L - x.i; omega, ⟨i6_step (by omega), trivial, trivial, trivial, trivial, trivial⟩, LeH.refl _⟩⟩
      show (pushB y.B 10).data.toList = _
      rw [toList_pushB, y3, rowsL_succ, hyk]
    obtain ⟨y1, y3⟩ := hy
    have hk : y.i < (g x.i).len := by have := of_decide_eq_true hlt; omega
    have hyl := bsize y3
    have hroom := upTo_len cu g F (L := L) hr y1
    have hfr := field_room (c := cu) (F := F) hr hk
    have hFs := hF x.i y.i hr hk
    have hbeq : ((((g x.i).len : Int) == 1)) = Nat.beq (g x.i).len 1 := by
      rw [Bool.eq_iff_iff, beq_iff_eq, Nat.beq_eq]; omega
    refine ⟨⟨by omega, by omega⟩, x.i, hr, rfl, rfl, hk, br_intro (fun hpos => ?_) (fun hpos => ?_)⟩
    · have hk0 : y.i ≠ 0 := by have := of_decide_eq_true hpos; omega
      have hus : upSep cu g F x.i y.i = upTo cu g F x.i y.i ++ [cu] := by rw [upSep, if_neg hk0]
      have hB : (pushB y.B cu).data.toList = upSep cu g F x.i y.i := by rw [toList_pushB, y3, hus]
      have hBs := bsize hB
      refine ⟨y.B, .inl ⟨_, rfl⟩, h0, h1, by omega, fun S1 => ⟨hFs, ?_⟩⟩
      rw [hbeq]
      refine br_intro (fun hn => ?_) (fun hn => ?_)
      · rw [fieldL_yes hn] at hfr
        have hql := toList_quoted (F x.i y.i)
        have hqs := bsize hql
        have hql2 : (catS (catS (ByteArray.mk #[(34 : UInt8)]) (mkS (Lib.replaceAll (F x.i y.i).data.toList [34] [34, 34]))) (ByteArray.mk #[(34 : UInt8)])).data.toList = 34 :: quoteL (F x.i y.i).data.toList ++ [34] := hql
        have hqs2 := bsize hql2
        simp only [List.length_append, List.length_cons, List.length_nil] at hfr hqs2
        have hq2 := quoteL_len (F x.i y.i).data.toList
        rw [size_list] at hq2
        simp only [List.length_append, List.length_cons, List.length_nil] at hqs
        have hrs : (mkS (Lib.replaceAll (F x.i y.i).data.toList (ByteArray.mk #[(34 : UInt8)]).data.toList (ByteArray.mk #[(34 : UInt8), (34 : UInt8)]).data.toList)).size = (quoteL (F x.i y.i).data.toList).length := bsize (replaceAll_quote (F x.i y.i).data.toList)
        have hrs2 : (mkS (Lib.replaceAll (F x.i y.i).data.toList [34] [34, 34])).size = (quoteL (F x.i y.i).data.toList).length := hrs
        have hcb := Lib.countB_le (ByteArray.mk #[(34 : UInt8)]) (by decide) _ (F x.i y.i) (Nat.le_refl _)
        have e1 : (ByteArray.mk #[(34 : UInt8)]).size = 1 := rfl
        refine ⟨⟨hFs, by omega, by omega⟩, by omega, by rw [size_catS', e1]; omega, pushB y.B cu, .inl ⟨_, rfl⟩, by omega, fun S2 => ⟨⟨y.i + 1, _, S2⟩, ⟨hk, ?_⟩, by show (g x.i).len - (y.i + 1) < (g x.i).len - y.i; omega, ⟨i6_step (by omega), trivial, trivial, trivial, trivial, trivial, trivial, trivial, trivial, trivial⟩, LeH.refl _⟩⟩
        show (catS (pushB y.B cu) _).data.toList = _
        rw [toList_catS, hB, upTo_succ, fieldL_yes hn, hql2]
      · have hn : needsB (F x.i y.i) (Nat.beq (g x.i).len 1) cu = false := by simpa using hn
        rw [fieldL_no hn, size_list] at hfr
        refine ⟨pushB y.B cu, .inl ⟨_, rfl⟩, by omega, fun S2 => ⟨⟨y.i + 1, _, S2⟩, ⟨hk, ?_⟩, by show (g x.i).len - (y.i + 1) < (g x.i).len - y.i; omega, ⟨i6_step (by omega), trivial, trivial, trivial, trivial, trivial, trivial, trivial, trivial, trivial⟩, LeH.refl _⟩⟩
        show (catS (pushB y.B cu) _).data.toList = _
        rw [toList_catS, hB, upTo_succ, fieldL_no hn]
    · have hk0 : y.i = 0 := by have := of_decide_eq_false hpos; omega
      have hus : upSep cu g F x.i y.i = upTo cu g F x.i y.i := by rw [upSep, if_pos hk0, List.append_nil]
      have hB : y.B.data.toList = upSep cu g F x.i y.i := by rw [y3, hus]
      have hBs := bsize hB
      refine ⟨hFs, ?_⟩
      rw [hbeq]
      refine br_intro (fun hn => ?_) (fun hn => ?_)
      · rw [fieldL_yes hn] at hfr
        have hql := toList_quoted (F x.i y.i)
        have hqs := bsize hql
        have hql2 : (catS (catS (ByteArray.mk #[(34 : UInt8)]) (mkS (Lib.replaceAll (F x.i y.i).data.toList [34] [34, 34]))) (ByteArray.mk #[(34 : UInt8)])).data.toList = 34 :: quoteL (F x.i y.i).data.toList ++ [34] := hql
        have hqs2 := bsize hql2
        simp only [List.length_append, List.length_cons, List.length_nil] at hfr hqs2
        have hq2 := quoteL_len (F x.i y.i).data.toList
        rw [size_list] at hq2
        simp only [List.length_append, List.length_cons, List.length_nil] at hqs
        have hrs : (mkS (Lib.replaceAll (F x.i y.i).data.toList (ByteArray.mk #[(34 : UInt8)]).data.toList (ByteArray.mk #[(34 : UInt8), (34 : UInt8)]).data.toList)).size = (quoteL (F x.i y.i).data.toList).length := bsize (replaceAll_quote (F x.i y.i).data.toList)
        have hrs2 : (mkS (Lib.replaceAll (F x.i y.i).data.toList [34] [34, 34])).size = (quoteL (F x.i y.i).data.toList).length := hrs
        have hcb := Lib.countB_le (ByteArray.mk #[(34 : UInt8)]) (by decide) _ (F x.i y.i) (Nat.le_refl _)
        have e1 : (ByteArray.mk #[(34 : UInt8)]).size = 1 := rfl
        refine ⟨⟨hFs, by omega, by omega⟩, by omega, by rw [size_catS', e1]; omega, y.B, .inl ⟨_, rfl⟩, by omega, fun S2 => ⟨⟨y.i + 1, _, S2⟩, ⟨hk, ?_⟩, by show (g x.i).len - (y.i + 1) < (g x.i).len - y.i; omega, ⟨i6_step (by omega), trivial, trivial, trivial, trivial, trivial, trivial, trivial, trivial, trivial⟩, LeH.refl _⟩⟩
        show (catS y.B _).data.toList = _
        rw [toList_catS, hB, upTo_succ, fieldL_yes hn, hql2]
      · have hn : needsB (F x.i y.i) (Nat.beq (g x.i).len 1) cu = false := by simpa using hn
        rw [fieldL_no hn, size_list] at hfr
        refine ⟨y.B, .inl ⟨_, rfl⟩, by omega, fun S2 => ⟨⟨y.i + 1, _, S2⟩, ⟨hk, ?_⟩, by show (g x.i).len - (y.i + 1) < (g x.i).len - y.i; omega, ⟨i6_step (by omega), trivial, trivial, trivial, trivial, trivial, trivial, trivial, trivial, trivial⟩, LeH.refl _⟩⟩
        show (catS y.B _).data.toList = _
        rw [toList_catS, hB, upTo_succ, fieldL_no hn])
end Go.Proofs.YtdokphikobfakaaDoor

