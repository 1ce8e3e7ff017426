/- Csv: the document's Write. -/
import Derived.Test.YtdokphikobfakaaDoorI
import Derived.Test.YtdokphikobfakaaDoorK
import Derived.Test.YtdokphikobfakaaDoorY8
namespace Go.Eng
open Go.Sp

def natT (x : Option AV) : Nat :=
  match x with
  | some (.v (.int _ n)) => n.toNat
  | _ => 0

/-- Bytes that grow. -/
structure BX where
  i : Nat
  a : Option Addr
  n : Nat
  B : ByteArray
  cap : Nat
  S : List Nat

/-- Bytes as a known block. -/
abbrev lB (n : Nat) (B : ByteArray) (cap : Nat) (S : List Nat) : Blk := ⟨n, .lst 0 B.size [.ints .u8 (byteAt B)] S (some (cap, 5)), true⟩

/-- All first rows have something. -/
def full (i : Nat) (g : Nat → RW) : Prop := ∀ q, q < i → 0 < (g q).len

/-- What is written of the first rows, and of the first fields of the next one; 'sep': and what parts them from the one behind. -/
def upTo (c : UInt8) (g : Nat → RW) (F : Nat → Nat → ByteArray) (i k : Nat) : List UInt8 := rowsL c g F i ++ fieldsL c (g i).len (F i) k
def upSep (c : UInt8) (g : Nat → RW) (F : Nat → Nat → ByteArray) (i k : Nat) : List UInt8 := upTo c g F i k ++ (if k = 0 then [] else [c])

/-- What is known at the heads of the loops of the document's Write. -/
def rwrJ (c : UInt8) (L : Nat) (g : Nat → RW) (F : Nat → Nat → ByteArray) : Nat → TT → HH → LI := fun b T H =>
  match b with
  | 0 => .inv Nat (fun i => ((6, .v (.int .i64 (i : Int))) :: keepT [0, 1] T, H)) (fun i => i ≤ L ∧ full i g) (fun i => L - i)
  | 2 => .inv BX (fun x => ((7, .os 1 x.a x.n 0 0 1 x.B.size x.cap) :: (8, .v (.int .i64 (x.i : Int))) :: keepT [0, 1] T, H ++ [lB x.n x.B x.cap x.S])) (fun x => x.i ≤ L ∧ emptyOk x.a x.n x.B.size x.cap ∧ x.B.data.toList = rowsL c g F x.i) (fun x => L - x.i)
  | 4 =>
    match T.get 8 with
    | some (.v (.int _ r)) => .inv BX (fun x => ((9, .v (.int .i64 (x.i : Int))) :: (7, .os 1 x.a x.n 0 0 1 x.B.size x.cap) :: keepT [0, 1, 8] T, H.set 1 (lB x.n x.B x.cap x.S))) (fun x => x.i ≤ (g r.toNat).len ∧ emptyOk x.a x.n x.B.size x.cap ∧ x.B.data.toList = upTo c g F r.toNat x.i) (fun x => (g r.toNat).len - x.i)
    | _ => .unroll 0
  | 6 =>
    match T.get 8, T.get 9, T.get 10 with
    | some (.v (.int _ r)), some (.v (.int _ k)), some (.v (.string f)) => .inv BX (fun x => ((11, .v (.int .i64 (x.i : Int))) :: (7, .os 1 x.a x.n 0 0 1 x.B.size x.cap) :: keepT [0, 1, 8, 9, 10] T, H.set 1 (lB x.n x.B x.cap x.S))) (fun x => x.i ≤ f.size ∧ emptyOk x.a x.n x.B.size x.cap ∧ x.B.data.toList = upSep c g F r.toNat k.toNat ++ 34 :: quoteL (f.data.toList.take x.i)) (fun x => f.size - x.i)
    | _, _, _ => .unroll 0
  | _ => .unroll 0

/-- How wide rows are. -/
def wideH : Handler := fun _ args H K =>
  match args with
  | [.os id _ n o 0 1 L _] => ∃ (g : Nat → RW) (F : Nat → Nat → ByteArray) (S : List Nat) (w : Bool), nth H id = some ⟨n, .texts o L g F S false, w⟩ ∧ L ≤ 9223372036854775807 ∧ K (.ret (.v (.int .i64 (wideN g L : Int)))) H
  | _ => False
end Go.Eng
namespace Go.Proofs.YtdokphikobfakaaDoor
open Go Go.Eng Go.Sp
set_option linter.unusedVariables false
set_option linter.unusedSimpArgs false

/-- What a field needs, by the document. -/
def rneF : List AV → Option (Prop × AV)
  | [.v (.string s), .v (.bool a), .v (.int .u8 c)] => some ((0 ≤ c ∧ c ≤ 255 ∧ s.size ≤ 140737488355328), .v (.bool (needsB s a c.toNat.toUInt8)))
  | _ => none

theorem rne_ok : PrOk Tryd.prog 22 rneF := PrOk.of_lc (enters_of (c := body Tryd.f22) Tryd.func22 rfl (by kernel_rfl)) fun args p h hp => by
  unfold rneF at h
  split at h
  · cases h
    exact rneeds_lc _ _ _ hp.1 hp.2.1 hp.2.2
  · cases h

theorem texts_read {n o L : Nat} {g : Nat → RW} {F : Nat → Nat → ByteArray} {S : List Nat} {fl w : Bool} : LeB ⟨n, .texts o L g F S fl, w⟩ ⟨n, .texts o L g F S false, false⟩ :=
  ⟨fun k hk => hk, fun h => (by cases h), fun w hw => ⟨hw.1, hw.2.1, hw.2.2.1, fun h => (by cases h)⟩⟩

theorem wideH_ok {f : FuncId} (he : Enters Tryd.prog f) (h : ∀ (a : Option Addr) (n o L cap : Nat) (g : Nat → RW) (F : Nat → Nat → ByteArray) (S : List Nat), L ≤ 9223372036854775807 → LC Tryd.prog f [.os 0 a n o 0 1 L cap] [⟨n, .texts o L g F S false, false⟩] (fun z _ => z = .v (.int .i64 (wideN g L : Int)))) : HOk Tryd.prog f wideH := HOk.of_read he fun rs args H K hk => by
  unfold wideH at hk
  split at hk
  · rename_i id a n o L cap
    obtain ⟨g, F, S, w, h1, hL, hk⟩ := hk
    refine ⟨_, [.os 0 a n o 0 1 L cap], _, leAt (H := H) (H' := [⟨n, .texts o L g F S false, false⟩]) [id] (by simp) ?_, rfl, rfl, (h a n o L cap g F S hL).mono fun r H' e => by rw [e], hk⟩
    simp only [pickH, h1]
    exact ⟨texts_read, trivial⟩
  · exact hk.elim

theorem rwideH_ok : HOk Tryd.prog 11 wideH := wideH_ok (enters_of (c := body Tryd.f11) Tryd.func11 rfl (by kernel_rfl)) rwide_lc
theorem cwideH_ok : HOk Tryd.prog 10 wideH := wideH_ok (enters_of (c := body Tryd.f10) Tryd.func10 rfl (by kernel_rfl)) cwide_lc


def rsepI : Handler := inlH tab [] noinv 2 Tryd.f21 1

set_option maxRecDepth 100000 in
theorem rsep_ok : HOk Tryd.prog 21 rsepI :=
  inl_ok (tbl := []) tab_ok trivial mixed noinv 2 _ 1 Tryd.func21 rfl Tryd.ntmps21 (by decide) (by kernel_rfl) (Nat.le_of_ble_eq_true rfl)


def tl : Tbl := (4294967294, .ext mergeFlag) :: (21, .gen rsepI) :: (11, .gen wideH) :: (22, .pre rneF) :: []

theorem tl_ok : TblOk Tryd.prog tl := ⟨flag_ok, rsep_ok, rwideH_ok, rne_ok, trivial⟩


set_option maxRecDepth 100000 in
theorem rwr0_vc (a : Option Addr) (n o L cap : Nat) (g : Nat → RW) (F : Nat → Nat → ByteArray) (S : List Nat) (c : Int) {R : AV → Prop} (h : (br (c != (0 : Int))
 (br (c != (10 : Int))
 (br (c != (13 : Int))
 (br (!c != (34 : Int)) (R (AV.tup [AV.v (Value.string (ByteArray.mk #[])), AV.v (Value.int IntKind.i64 (2 : Int))]))
 ((∃ (x : Nat), (x ≤ L ∧ full x g) ∧ ((AV.v (Value.int IntKind.i64 (0 : Int))).den = (AV.v (Value.int IntKind.i64 (↑x : Int))).den ∧ (AV.os (0 : Nat) a n o (0 : Nat) (1 : Nat) L cap).den = (AV.os (0 : Nat) a n o (0 : Nat) (1 : Nat) L cap).den ∧ (AV.v (Value.int IntKind.u8 c)).den = (AV.v (Value.int IntKind.u8 c)).den ∧ True) ∧ LeH [Blk.mk n (Cont.texts o L g F S false) false] [Blk.mk n (Cont.texts o L g F S false) false]) ∧
 ∀ (n1 : Nat),
 n1 ≤ L ∧ full n1 g →
 br (decide ((↑n1 : Int) < (↑L : Int))) (((0 : Int) ≤ (↑n1 : Int) ∧ (↑n1 : Int) < (↑L : Int)) ∧ n = n ∧ o = o ∧ (0 : Nat) + (↑n1 : Int).toNat < L ∧ br ((↑(g ((0 : Nat) + (↑n1 : Int).toNat)).len : Int) == (0 : Int)) (R (AV.tup [AV.v (Value.string (ByteArray.mk #[])), AV.v (Value.int IntKind.i64 (2 : Int))])) (∃ (x' : Nat), (x' ≤ L ∧ full x' g) ∧ L - x' < L - n1 ∧ ((AV.v (Value.int IntKind.i64 (IntKind.i64.wrap ((↑n1 : Int) + (1 : Int))))).den = (AV.v (Value.int IntKind.i64 (↑x' : Int))).den ∧ (AV.os (0 : Nat) a n o (0 : Nat) (1 : Nat) L cap).den = (AV.os (0 : Nat) a n o (0 : Nat) (1 : Nat) L cap).den ∧ (AV.v (Value.int IntKind.u8 c)).den = (AV.v (Value.int IntKind.u8 c)).den ∧ True) ∧ LeH [Blk.mk n (Cont.texts o L g F S false) false] [Blk.mk n (Cont.texts o L g F S false) false]))
 (br (decide ((↑L : Int) > (1048576 : Int))) (R (AV.tup [AV.v (Value.string (ByteArray.mk #[])), AV.v (Value.int IntKind.i64 (7 : Int))]))
 (∃ (g_1 : Nat → RW),
 ∃ (F_1 : Nat → Nat → ByteArray),
 ∃ (S_1 : List Nat),
 ∃ (w : Bool),
 some (Blk.mk n (Cont.texts o L g F S false) false) = some (Blk.mk n (Cont.texts o L g_1 F_1 S_1 false) w) ∧
 L ≤ (9223372036854775807 : Nat) ∧
 br (decide ((↑(wideN g_1 L) : Int) > (16384 : Int))) (R (AV.tup [AV.v (Value.string (ByteArray.mk #[])), AV.v (Value.int IntKind.i64 (7 : Int))]))
 ((∃ (x : BX), (x.i ≤ L ∧ emptyOk x.a x.n x.4.size x.cap ∧ x.4.data.toList = rowsL c.toNat.toUInt8 g F x.i) ∧ ((AV.v (Value.slice none (0 : Nat) (0 : Nat))).den = (AV.os (1 : Nat) x.a x.n (0 : Nat) (0 : Nat) (1 : Nat) x.4.size x.cap).den ∧ (AV.v (Value.int IntKind.i64 (0 : Int))).den = (AV.v (Value.int IntKind.i64 (↑x.i : Int))).den ∧ (AV.os (0 : Nat) a n o (0 : Nat) (1 : Nat) L cap).den = (AV.os (0 : Nat) a n o (0 : Nat) (1 : Nat) L cap).den ∧ (AV.v (Value.int IntKind.u8 c)).den = (AV.v (Value.int IntKind.u8 c)).den ∧ True) ∧ LeH [Blk.mk n (Cont.texts o L g F S false) false] [Blk.mk n (Cont.texts o L g F S false) false, Blk.mk x.n (Cont.lst (0 : Nat) x.4.size [Col.ints IntKind.u8 (byteAt x.4)] x.S (some (x.cap, (5 : TypeId)))) true]) ∧
 ∀ (x : BX),
 x.i ≤ L ∧ emptyOk x.a x.n x.4.size x.cap ∧ x.4.data.toList = rowsL c.toNat.toUInt8 g F x.i →
 br (decide ((↑x.i : Int) < (↑L : Int)))
 ((∃ (x_1 : BX), (x_1.i ≤ (g (↑x.i : Int).toNat).len ∧ emptyOk x_1.a x_1.n x_1.4.size x_1.cap ∧ x_1.4.data.toList = upTo c.toNat.toUInt8 g F (↑x.i : Int).toNat x_1.i) ∧ ((AV.v (Value.int IntKind.i64 (0 : Int))).den = (AV.v (Value.int IntKind.i64 (↑x_1.i : Int))).den ∧ (AV.os (1 : Nat) x.a x.n (0 : Nat) (0 : Nat) (1 : Nat) x.4.size x.cap).den = (AV.os (1 : Nat) x_1.a x_1.n (0 : Nat) (0 : Nat) (1 : Nat) x_1.4.size x_1.cap).den ∧ (AV.os (0 : Nat) a n o (0 : Nat) (1 : Nat) L cap).den = (AV.os (0 : Nat) a n o (0 : Nat) (1 : Nat) L cap).den ∧ (AV.v (Value.int IntKind.u8 c)).den = (AV.v (Value.int IntKind.u8 c)).den ∧ (AV.v (Value.int IntKind.i64 (↑x.i : Int))).den = (AV.v (Value.int IntKind.i64 (↑x.i : Int))).den ∧ True) ∧ LeH [Blk.mk n (Cont.texts o L g F S false) false, Blk.mk x.n (Cont.lst (0 : Nat) x.4.size [Col.ints IntKind.u8 (byteAt x.4)] x.S (some (x.cap, (5 : TypeId)))) true] [Blk.mk n (Cont.texts o L g F S false) false, Blk.mk x_1.n (Cont.lst (0 : Nat) x_1.4.size [Col.ints IntKind.u8 (byteAt x_1.4)] x_1.S (some (x_1.cap, (5 : TypeId)))) true]) ∧
 ∀ (x_1 : BX),
 x_1.i ≤ (g (↑x.i : Int).toNat).len ∧ emptyOk x_1.a x_1.n x_1.4.size x_1.cap ∧ x_1.4.data.toList = upTo c.toNat.toUInt8 g F (↑x.i : Int).toNat x_1.i →
 ((0 : Int) ≤ (↑x.i : Int) ∧ (↑x.i : Int) < (↑L : Int)) ∧
 n = n ∧
 o = o ∧
 (0 : Nat) + (↑x.i : Int).toNat < L ∧
 br (decide ((↑x_1.i : Int) < (↑(g ((0 : Nat) + (↑x.i : Int).toNat)).len : Int)))
 (br (decide ((↑x_1.i : Int) > (0 : Int)))
 (∀ (n11 : Nat),
 n11 = n11 ∧
 x_1.n = x_1.n ∧
 (0 : Nat) = (0 : Nat) ∧
 (0 : Nat) = (0 : Nat) ∧
 x_1.4.size ≤ x_1.4.size ∧
 x_1.cap = x_1.cap ∧
 (x_1.4.size = (0 : Nat) → x_1.cap = (0 : Nat) ∨ x_1.a = some (Addr.mk x_1.n (0 : Nat) none)) ∧
 (x_1.4.size + (1 : Nat) ≤ (9223372036854775807 : Nat) ∧ (x_1.4.size + (1 : Nat) + (x_1.4.size + (1 : Nat)) / (4 : Nat) + (192 : Nat)) * (1 : Nat) ≤ (281474976710656 : Nat)) ∧
 ∀ (a' : Option Addr) (n13 n14 : Nat) (S' : List Nat),
 x_1.4.size + (1 : Nat) ≤ n14 →
 emptyOk a' n13 (x_1.4.size + (1 : Nat)) n14 →
 ((0 : Int) ≤ (↑x.i : Int) ∧ (↑x.i : Int) < (↑L : Int)) ∧
 n = n ∧
 o = o ∧
 (0 : Nat) + (↑x.i : Int).toNat < L ∧
 ((0 : Int) ≤ (↑x_1.i : Int) ∧ (↑x_1.i : Int) < (↑(g ((0 : Nat) + (↑x.i : Int).toNat)).len : Int)) ∧
 ∃ (q : Nat),
 q < L ∧
 (g ((0 : Nat) + (↑x.i : Int).toNat)).n = (g q).n ∧
 (g ((0 : Nat) + (↑x.i : Int).toNat)).o = (g q).o ∧
 (0 : Nat) + (↑x_1.i : Int).toNat < (g q).len ∧
 ((0 : Int) ≤ (↑x.i : Int) ∧ (↑x.i : Int) < (↑L : Int)) ∧
 n = n ∧
 o = o ∧
 (0 : Nat) + (↑x.i : Int).toNat < L ∧
 ((0 : Int) ≤ c ∧ c ≤ (255 : Int) ∧ (F q ((0 : Nat) + (↑x_1.i : Int).toNat)).size ≤ (140737488355328 : Nat)) ∧
 br (!needsB (F q ((0 : Nat) + (↑x_1.i : Int).toNat)) ((↑(g ((0 : Nat) + (↑x.i : Int).toNat)).len : Int) == (1 : Int)) c.toNat.toUInt8)
 (n13 = n13 ∧
 (0 : Nat) = (0 : Nat) ∧
 (0 : Nat) = (0 : Nat) ∧
 x_1.4.size + (1 : Nat) ≤ x_1.4.size + (1 : Nat) ∧
 n14 = n14 ∧
 (x_1.4.size + (1 : Nat) = (0 : Nat) → n14 = (0 : Nat) ∨ a' = some (Addr.mk n13 (0 : Nat) none)) ∧
 (x_1.4.size + (1 : Nat) + (F q ((0 : Nat) + (↑x_1.i : Int).toNat)).size ≤ (9223372036854775807 : Nat) ∧ (x_1.4.size + (1 : Nat) + (F q ((0 : Nat) + (↑x_1.i : Int).toNat)).size + (x_1.4.size + (1 : Nat) + (F q ((0 : Nat) + (↑x_1.i : Int).toNat)).size) / (4 : Nat) + (192 : Nat)) * (1 : Nat) ≤ (281474976710656 : Nat)) ∧
 ∀ (a' : Option Addr) (n20 n21 : Nat) (S' : List Nat),
 x_1.4.size + (1 : Nat) + (F q ((0 : Nat) + (↑x_1.i : Int).toNat)).size ≤ n21 →
 emptyOk a' n20 (x_1.4.size + (1 : Nat) + (F q ((0 : Nat) + (↑x_1.i : Int).toNat)).size) n21 →
 ∃ (x' : BX),
 (x'.i ≤ (g (↑x.i : Int).toNat).len ∧ emptyOk x'.a x'.n x'.4.size x'.cap ∧ x'.4.data.toList = upTo c.toNat.toUInt8 g F (↑x.i : Int).toNat x'.i) ∧
 (g (↑x.i : Int).toNat).len - x'.i < (g (↑x.i : Int).toNat).len - x_1.i ∧
 ((AV.v (Value.int IntKind.i64 (IntKind.i64.wrap ((↑x_1.i : Int) + (1 : Int))))).den = (AV.v (Value.int IntKind.i64 (↑x'.i : Int))).den ∧ (AV.os (1 : Nat) a' n20 (0 : Nat) (0 : Nat) (1 : Nat) (x_1.4.size + (1 : Nat) + (F q ((0 : Nat) + (↑x_1.i : Int).toNat)).size) n21).den = (AV.os (1 : Nat) x'.a x'.n (0 : Nat) (0 : Nat) (1 : Nat) x'.4.size x'.cap).den ∧ (AV.os (0 : Nat) a n o (0 : Nat) (1 : Nat) L cap).den = (AV.os (0 : Nat) a n o (0 : Nat) (1 : Nat) L cap).den ∧ (AV.v (Value.int IntKind.u8 c)).den = (AV.v (Value.int IntKind.u8 c)).den ∧ (AV.v (Value.int IntKind.i64 (↑x.i : Int))).den = (AV.v (Value.int IntKind.i64 (↑x.i : Int))).den ∧ True) ∧
 LeH
 [Blk.mk n (Cont.texts o L g F S false) false,
 Blk.mk n20
 (Cont.lst (0 : Nat) (x_1.4.size + (1 : Nat) + (F q ((0 : Nat) + (↑x_1.i : Int).toNat)).size)
 [Col.ints IntKind.u8 fun (i : Nat) =>
 if i < x_1.4.size + (1 : Nat) then
 if i < x_1.4.size then byteAt x_1.4 i
 else
 if i < x_1.4.size + (1 : Nat) then
 match asI IntKind.u8 ((nth [AV.v (Value.int IntKind.u8 c)] (((0 : Nat) + (i - x_1.4.size)) * (1 : Nat) + nat_lit 0)).getD (AV.v undef)) with
 | some x => x
 | none => (0 : Int)
 else (0 : Int)
 else if i < x_1.4.size + (1 : Nat) + (F q ((0 : Nat) + (↑x_1.i : Int).toNat)).size then byteAt (F q ((0 : Nat) + (↑x_1.i : Int).toNat)) (i - (x_1.4.size + (1 : Nat))) else (0 : Int)]
 S' (some (n21, (5 : Nat))))
 true,
 Blk.mk n11 (Cont.cells [AV.v (Value.int IntKind.u8 c)] (5 : Nat)) true]
 [Blk.mk n (Cont.texts o L g F S false) false, Blk.mk x'.n (Cont.lst (0 : Nat) x'.4.size [Col.ints IntKind.u8 (byteAt x'.4)] x'.S (some (x'.cap, (5 : TypeId)))) true])
 (∀ (n19 : Nat),
 n19 = n19 ∧
 n13 = n13 ∧
 (0 : Nat) = (0 : Nat) ∧
 (0 : Nat) = (0 : Nat) ∧
 x_1.4.size + (1 : Nat) ≤ x_1.4.size + (1 : Nat) ∧
 n14 = n14 ∧
 (x_1.4.size + (1 : Nat) = (0 : Nat) → n14 = (0 : Nat) ∨ a' = some (Addr.mk n13 (0 : Nat) none)) ∧
 (x_1.4.size + (1 : Nat) + (1 : Nat) ≤ (9223372036854775807 : Nat) ∧ (x_1.4.size + (1 : Nat) + (1 : Nat) + (x_1.4.size + (1 : Nat) + (1 : Nat)) / (4 : Nat) + (192 : Nat)) * (1 : Nat) ≤ (281474976710656 : Nat)) ∧
 ∀ (a' : Option Addr) (n21 n22 : Nat) (S' : List Nat),
 x_1.4.size + (1 : Nat) + (1 : Nat) ≤ n22 →
 emptyOk a' n21 (x_1.4.size + (1 : Nat) + (1 : Nat)) n22 →
 (∃ (x_2 : BX),
 (x_2.i ≤ (F q ((0 : Nat) + (↑x_1.i : Int).toNat)).size ∧ emptyOk x_2.a x_2.n x_2.4.size x_2.cap ∧ x_2.4.data.toList = upSep c.toNat.toUInt8 g F (↑x.i : Int).toNat (↑x_1.i : Int).toNat ++ (34 : UInt8) :: quoteL (List.take x_2.i (F q ((0 : Nat) + (↑x_1.i : Int).toNat)).data.toList)) ∧
 ((AV.v (Value.int IntKind.i64 (0 : Int))).den = (AV.v (Value.int IntKind.i64 (↑x_2.i : Int))).den ∧ (AV.os (1 : Nat) a' n21 (0 : Nat) (0 : Nat) (1 : Nat) (x_1.4.size + (1 : Nat) + (1 : Nat)) n22).den = (AV.os (1 : Nat) x_2.a x_2.n (0 : Nat) (0 : Nat) (1 : Nat) x_2.4.size x_2.cap).den ∧ (AV.os (0 : Nat) a n o (0 : Nat) (1 : Nat) L cap).den = (AV.os (0 : Nat) a n o (0 : Nat) (1 : Nat) L cap).den ∧ (AV.v (Value.int IntKind.u8 c)).den = (AV.v (Value.int IntKind.u8 c)).den ∧ (AV.v (Value.int IntKind.i64 (↑x.i : Int))).den = (AV.v (Value.int IntKind.i64 (↑x.i : Int))).den ∧ (AV.v (Value.int IntKind.i64 (↑x_1.i : Int))).den = (AV.v (Value.int IntKind.i64 (↑x_1.i : Int))).den ∧ (AV.v (Value.string (F q ((0 : Nat) + (↑x_1.i : Int).toNat)))).den = (AV.v (Value.string (F q ((0 : Nat) + (↑x_1.i : Int).toNat)))).den ∧ True) ∧
 LeH
 [Blk.mk n (Cont.texts o L g F S false) false,
 Blk.mk n21
 (Cont.lst (0 : Nat) (x_1.4.size + (1 : Nat) + (1 : Nat))
 [Col.ints IntKind.u8 fun (i : Nat) =>
 if i < x_1.4.size + (1 : Nat) then
 if i < x_1.4.size then byteAt x_1.4 i
 else
 if i < x_1.4.size + (1 : Nat) then
 match asI IntKind.u8 ((nth [AV.v (Value.int IntKind.u8 c)] (((0 : Nat) + (i - x_1.4.size)) * (1 : Nat) + nat_lit 0)).getD (AV.v undef)) with
 | some x => x
 | none => (0 : Int)
 else (0 : Int)
 else
 if i < x_1.4.size + (1 : Nat) + (1 : Nat) then
 match asI IntKind.u8 ((nth [AV.v (Value.int IntKind.u8 (34 : Int))] (((0 : Nat) + (i - (x_1.4.size + (1 : Nat)))) * (1 : Nat) + nat_lit 0)).getD (AV.v undef)) with
 | some x => x
 | none => (0 : Int)
 else (0 : Int)]
 S' (some (n22, (5 : Nat))))
 true,
 Blk.mk n11 (Cont.cells [AV.v (Value.int IntKind.u8 c)] (5 : Nat)) true, Blk.mk n19 (Cont.cells [AV.v (Value.int IntKind.u8 (34 : Int))] (5 : Nat)) true]
 [Blk.mk n (Cont.texts o L g F S false) false, Blk.mk x_2.n (Cont.lst (0 : Nat) x_2.4.size [Col.ints IntKind.u8 (byteAt x_2.4)] x_2.S (some (x_2.cap, (5 : TypeId)))) true, Blk.mk n11 (Cont.cells [AV.v (Value.int IntKind.u8 c)] (5 : Nat)) true, Blk.mk n19 (Cont.cells [AV.v (Value.int IntKind.u8 (34 : Int))] (5 : Nat)) true]) ∧
 ∀ (x_2 : BX),
 x_2.i ≤ (F q ((0 : Nat) + (↑x_1.i : Int).toNat)).size ∧ emptyOk x_2.a x_2.n x_2.4.size x_2.cap ∧ x_2.4.data.toList = upSep c.toNat.toUInt8 g F (↑x.i : Int).toNat (↑x_1.i : Int).toNat ++ (34 : UInt8) :: quoteL (List.take x_2.i (F q ((0 : Nat) + (↑x_1.i : Int).toNat)).data.toList) →
 br (decide ((↑x_2.i : Int) < (↑(F q ((0 : Nat) + (↑x_1.i : Int).toNat)).size : Int)))
 (((0 : Int) ≤ (↑x_2.i : Int) ∧ (↑x_2.i : Int) < (↑(F q ((0 : Nat) + (↑x_1.i : Int).toNat)).size : Int)) ∧
 br (byteAt (F q ((0 : Nat) + (↑x_1.i : Int).toNat)) (↑x_2.i : Int).toNat == (34 : Int))
 (∀ (n28 : Nat),
 n28 = n28 ∧
 x_2.n = x_2.n ∧
 (0 : Nat) = (0 : Nat) ∧
 (0 : Nat) = (0 : Nat) ∧
 x_2.4.size ≤ x_2.4.size ∧
 x_2.cap = x_2.cap ∧
 (x_2.4.size = (0 : Nat) → x_2.cap = (0 : Nat) ∨ x_2.a = some (Addr.mk x_2.n (0 : Nat) none)) ∧
 (x_2.4.size + (1 : Nat) ≤ (9223372036854775807 : Nat) ∧ (x_2.4.size + (1 : Nat) + (x_2.4.size + (1 : Nat)) / (4 : Nat) + (192 : Nat)) * (1 : Nat) ≤ (281474976710656 : Nat)) ∧
 ∀ (a' : Option Addr) (n30 n31 : Nat) (S' : List Nat),
 x_2.4.size + (1 : Nat) ≤ n31 →
 emptyOk a' n30 (x_2.4.size + (1 : Nat)) n31 →
 ((0 : Int) ≤ (↑x_2.i : Int) ∧ (↑x_2.i : Int) < (↑(F q ((0 : Nat) + (↑x_1.i : Int).toNat)).size : Int)) ∧
 ∀ (n35 : Nat),
 n35 = n35 ∧
 n30 = n30 ∧
 (0 : Nat) = (0 : Nat) ∧
 (0 : Nat) = (0 : Nat) ∧
 x_2.4.size + (1 : Nat) ≤ x_2.4.size + (1 : Nat) ∧
 n31 = n31 ∧
 (x_2.4.size + (1 : Nat) = (0 : Nat) → n31 = (0 : Nat) ∨ a' = some (Addr.mk n30 (0 : Nat) none)) ∧
 (x_2.4.size + (1 : Nat) + (1 : Nat) ≤ (9223372036854775807 : Nat) ∧ (x_2.4.size + (1 : Nat) + (1 : Nat) + (x_2.4.size + (1 : Nat) + (1 : Nat)) / (4 : Nat) + (192 : Nat)) * (1 : Nat) ≤ (281474976710656 : Nat)) ∧
 ∀ (a' : Option Addr) (n37 n38 : Nat) (S' : List Nat),
 x_2.4.size + (1 : Nat) + (1 : Nat) ≤ n38 →
 emptyOk a' n37 (x_2.4.size + (1 : Nat) + (1 : Nat)) n38 →
 ∃ (x' : BX),
 (x'.i ≤ (F q ((0 : Nat) + (↑x_1.i : Int).toNat)).size ∧ emptyOk x'.a x'.n x'.4.size x'.cap ∧ x'.4.data.toList = upSep c.toNat.toUInt8 g F (↑x.i : Int).toNat (↑x_1.i : Int).toNat ++ (34 : UInt8) :: quoteL (List.take x'.i (F q ((0 : Nat) + (↑x_1.i : Int).toNat)).data.toList)) ∧
 (F q ((0 : Nat) + (↑x_1.i : Int).toNat)).size - x'.i < (F q ((0 : Nat) + (↑x_1.i : Int).toNat)).size - x_2.i ∧
 ((AV.v (Value.int IntKind.i64 (IntKind.i64.wrap ((↑x_2.i : Int) + (1 : Int))))).den = (AV.v (Value.int IntKind.i64 (↑x'.i : Int))).den ∧ (AV.os (1 : Nat) a' n37 (0 : Nat) (0 : Nat) (1 : Nat) (x_2.4.size + (1 : Nat) + (1 : Nat)) n38).den = (AV.os (1 : Nat) x'.a x'.n (0 : Nat) (0 : Nat) (1 : Nat) x'.4.size x'.cap).den ∧ (AV.os (0 : Nat) a n o (0 : Nat) (1 : Nat) L cap).den = (AV.os (0 : Nat) a n o (0 : Nat) (1 : Nat) L cap).den ∧ (AV.v (Value.int IntKind.u8 c)).den = (AV.v (Value.int IntKind.u8 c)).den ∧ (AV.v (Value.int IntKind.i64 (↑x.i : Int))).den = (AV.v (Value.int IntKind.i64 (↑x.i : Int))).den ∧ (AV.v (Value.int IntKind.i64 (↑x_1.i : Int))).den = (AV.v (Value.int IntKind.i64 (↑x_1.i : Int))).den ∧ (AV.v (Value.string (F q ((0 : Nat) + (↑x_1.i : Int).toNat)))).den = (AV.v (Value.string (F q ((0 : Nat) + (↑x_1.i : Int).toNat)))).den ∧ True) ∧
 LeH
 [Blk.mk n (Cont.texts o L g F S false) false,
 Blk.mk n37
 (Cont.lst (0 : Nat) (x_2.4.size + (1 : Nat) + (1 : Nat))
 [Col.ints IntKind.u8 fun (i : Nat) =>
 if i < x_2.4.size + (1 : Nat) then
 if i < x_2.4.size then byteAt x_2.4 i
 else
 if i < x_2.4.size + (1 : Nat) then
 match asI IntKind.u8 ((nth [AV.v (Value.int IntKind.u8 (34 : Int))] (((0 : Nat) + (i - x_2.4.size)) * (1 : Nat) + nat_lit 0)).getD (AV.v undef)) with
 | some x => x
 | none => (0 : Int)
 else (0 : Int)
 else
 if i < x_2.4.size + (1 : Nat) + (1 : Nat) then
 match asI IntKind.u8 ((nth [AV.v (Value.int IntKind.u8 (byteAt (F q ((0 : Nat) + (↑x_1.i : Int).toNat)) (↑x_2.i : Int).toNat))] (((0 : Nat) + (i - (x_2.4.size + (1 : Nat)))) * (1 : Nat) + nat_lit 0)).getD (AV.v undef)) with
 | some x => x
 | none => (0 : Int)
 else (0 : Int)]
 S' (some (n38, (5 : Nat))))
 true,
 Blk.mk n11 (Cont.cells [AV.v (Value.int IntKind.u8 c)] (5 : Nat)) true, Blk.mk n19 (Cont.cells [AV.v (Value.int IntKind.u8 (34 : Int))] (5 : Nat)) true, Blk.mk n28 (Cont.cells [AV.v (Value.int IntKind.u8 (34 : Int))] (5 : Nat)) true, Blk.mk n35 (Cont.cells [AV.v (Value.int IntKind.u8 (byteAt (F q ((0 : Nat) + (↑x_1.i : Int).toNat)) (↑x_2.i : Int).toNat))] (5 : Nat)) true]
 [Blk.mk n (Cont.texts o L g F S false) false, Blk.mk x'.n (Cont.lst (0 : Nat) x'.4.size [Col.ints IntKind.u8 (byteAt x'.4)] x'.S (some (x'.cap, (5 : TypeId)))) true, Blk.mk n11 (Cont.cells [AV.v (Value.int IntKind.u8 c)] (5 : Nat)) true, Blk.mk n19 (Cont.cells [AV.v (Value.int IntKind.u8 (34 : Int))] (5 : Nat)) true])
 (((0 : Int) ≤ (↑x_2.i : Int) ∧ (↑x_2.i : Int) < (↑(F q ((0 : Nat) + (↑x_1.i : Int).toNat)).size : Int)) ∧
 ∀ (n28 : Nat),
 n28 = n28 ∧
 x_2.n = x_2.n ∧
 (0 : Nat) = (0 : Nat) ∧
 (0 : Nat) = (0 : Nat) ∧
 x_2.4.size ≤ x_2.4.size ∧
 x_2.cap = x_2.cap ∧
 (x_2.4.size = (0 : Nat) → x_2.cap = (0 : Nat) ∨ x_2.a = some (Addr.mk x_2.n (0 : Nat) none)) ∧
 (x_2.4.size + (1 : Nat) ≤ (9223372036854775807 : Nat) ∧ (x_2.4.size + (1 : Nat) + (x_2.4.size + (1 : Nat)) / (4 : Nat) + (192 : Nat)) * (1 : Nat) ≤ (281474976710656 : Nat)) ∧
 ∀ (a' : Option Addr) (n30 n31 : Nat) (S' : List Nat),
 x_2.4.size + (1 : Nat) ≤ n31 →
 emptyOk a' n30 (x_2.4.size + (1 : Nat)) n31 →
 ∃ (x' : BX),
 (x'.i ≤ (F q ((0 : Nat) + (↑x_1.i : Int).toNat)).size ∧ emptyOk x'.a x'.n x'.4.size x'.cap ∧ x'.4.data.toList = upSep c.toNat.toUInt8 g F (↑x.i : Int).toNat (↑x_1.i : Int).toNat ++ (34 : UInt8) :: quoteL (List.take x'.i (F q ((0 : Nat) + (↑x_1.i : Int).toNat)).data.toList)) ∧
 (F q ((0 : Nat) + (↑x_1.i : Int).toNat)).size - x'.i < (F q ((0 : Nat) + (↑x_1.i : Int).toNat)).size - x_2.i ∧
 ((AV.v (Value.int IntKind.i64 (IntKind.i64.wrap ((↑x_2.i : Int) + (1 : Int))))).den = (AV.v (Value.int IntKind.i64 (↑x'.i : Int))).den ∧ (AV.os (1 : Nat) a' n30 (0 : Nat) (0 : Nat) (1 : Nat) (x_2.4.size + (1 : Nat)) n31).den = (AV.os (1 : Nat) x'.a x'.n (0 : Nat) (0 : Nat) (1 : Nat) x'.4.size x'.cap).den ∧ (AV.os (0 : Nat) a n o (0 : Nat) (1 : Nat) L cap).den = (AV.os (0 : Nat) a n o (0 : Nat) (1 : Nat) L cap).den ∧ (AV.v (Value.int IntKind.u8 c)).den = (AV.v (Value.int IntKind.u8 c)).den ∧ (AV.v (Value.int IntKind.i64 (↑x.i : Int))).den = (AV.v (Value.int IntKind.i64 (↑x.i : Int))).den ∧ (AV.v (Value.int IntKind.i64 (↑x_1.i : Int))).den = (AV.v (Value.int IntKind.i64 (↑x_1.i : Int))).den ∧ (AV.v (Value.string (F q ((0 : Nat) + (↑x_1.i : Int).toNat)))).den = (AV.v (Value.string (F q ((0 : Nat) + (↑x_1.i : Int).toNat)))).den ∧ True) ∧
 LeH
 [Blk.mk n (Cont.texts o L g F S false) false,
 Blk.mk n30
 (Cont.lst (0 : Nat) (x_2.4.size + (1 : Nat))
 [Col.ints IntKind.u8 fun (i : Nat) =>
 if i < x_2.4.size then byteAt x_2.4 i
 else
 if i < x_2.4.size + (1 : Nat) then
 match asI IntKind.u8 ((nth [AV.v (Value.int IntKind.u8 (byteAt (F q ((0 : Nat) + (↑x_1.i : Int).toNat)) (↑x_2.i : Int).toNat))] (((0 : Nat) + (i - x_2.4.size)) * (1 : Nat) + nat_lit 0)).getD (AV.v undef)) with
 | some x => x
 | none => (0 : Int)
 else (0 : Int)]
 S' (some (n31, (5 : Nat))))
 true,
 Blk.mk n11 (Cont.cells [AV.v (Value.int IntKind.u8 c)] (5 : Nat)) true, Blk.mk n19 (Cont.cells [AV.v (Value.int IntKind.u8 (34 : Int))] (5 : Nat)) true, Blk.mk n28 (Cont.cells [AV.v (Value.int IntKind.u8 (byteAt (F q ((0 : Nat) + (↑x_1.i : Int).toNat)) (↑x_2.i : Int).toNat))] (5 : Nat)) true]
 [Blk.mk n (Cont.texts o L g F S false) false, Blk.mk x'.n (Cont.lst (0 : Nat) x'.4.size [Col.ints IntKind.u8 (byteAt x'.4)] x'.S (some (x'.cap, (5 : TypeId)))) true, Blk.mk n11 (Cont.cells [AV.v (Value.int IntKind.u8 c)] (5 : Nat)) true, Blk.mk n19 (Cont.cells [AV.v (Value.int IntKind.u8 (34 : Int))] (5 : Nat)) true]))
 (∀ (n28 : Nat),
 n28 = n28 ∧
 x_2.n = x_2.n ∧
 (0 : Nat) = (0 : Nat) ∧
 (0 : Nat) = (0 : Nat) ∧
 x_2.4.size ≤ x_2.4.size ∧
 x_2.cap = x_2.cap ∧
 (x_2.4.size = (0 : Nat) → x_2.cap = (0 : Nat) ∨ x_2.a = some (Addr.mk x_2.n (0 : Nat) none)) ∧
 (x_2.4.size + (1 : Nat) ≤ (9223372036854775807 : Nat) ∧ (x_2.4.size + (1 : Nat) + (x_2.4.size + (1 : Nat)) / (4 : Nat) + (192 : Nat)) * (1 : Nat) ≤ (281474976710656 : Nat)) ∧
 ∀ (a' : Option Addr) (n30 n31 : Nat) (S' : List Nat),
 x_2.4.size + (1 : Nat) ≤ n31 →
 emptyOk a' n30 (x_2.4.size + (1 : Nat)) n31 →
 ∃ (x' : BX),
 (x'.i ≤ (g (↑x.i : Int).toNat).len ∧ emptyOk x'.a x'.n x'.4.size x'.cap ∧ x'.4.data.toList = upTo c.toNat.toUInt8 g F (↑x.i : Int).toNat x'.i) ∧
 (g (↑x.i : Int).toNat).len - x'.i < (g (↑x.i : Int).toNat).len - x_1.i ∧
 ((AV.v (Value.int IntKind.i64 (IntKind.i64.wrap ((↑x_1.i : Int) + (1 : Int))))).den = (AV.v (Value.int IntKind.i64 (↑x'.i : Int))).den ∧ (AV.os (1 : Nat) a' n30 (0 : Nat) (0 : Nat) (1 : Nat) (x_2.4.size + (1 : Nat)) n31).den = (AV.os (1 : Nat) x'.a x'.n (0 : Nat) (0 : Nat) (1 : Nat) x'.4.size x'.cap).den ∧ (AV.os (0 : Nat) a n o (0 : Nat) (1 : Nat) L cap).den = (AV.os (0 : Nat) a n o (0 : Nat) (1 : Nat) L cap).den ∧ (AV.v (Value.int IntKind.u8 c)).den = (AV.v (Value.int IntKind.u8 c)).den ∧ (AV.v (Value.int IntKind.i64 (↑x.i : Int))).den = (AV.v (Value.int IntKind.i64 (↑x.i : Int))).den ∧ True) ∧
 LeH
 [Blk.mk n (Cont.texts o L g F S false) false,
 Blk.mk n30
 (Cont.lst (0 : Nat) (x_2.4.size + (1 : Nat))
 [Col.ints IntKind.u8 fun (i : Nat) =>
 if i < x_2.4.size then byteAt x_2.4 i
 else
 if i < x_2.4.size + (1 : Nat) then
 match asI IntKind.u8 ((nth [AV.v (Value.int IntKind.u8 (34 : Int))] (((0 : Nat) + (i - x_2.4.size)) * (1 : Nat) + nat_lit 0)).getD (AV.v undef)) with
 | some x => x
 | none => (0 : Int)
 else (0 : Int)]
 S' (some (n31, (5 : Nat))))
 true,
 Blk.mk n11 (Cont.cells [AV.v (Value.int IntKind.u8 c)] (5 : Nat)) true, Blk.mk n19 (Cont.cells [AV.v (Value.int IntKind.u8 (34 : Int))] (5 : Nat)) true, Blk.mk n28 (Cont.cells [AV.v (Value.int IntKind.u8 (34 : Int))] (5 : Nat)) true]
 [Blk.mk n (Cont.texts o L g F S false) false, Blk.mk x'.n (Cont.lst (0 : Nat) x'.4.size [Col.ints IntKind.u8 (byteAt x'.4)] x'.S (some (x'.cap, (5 : TypeId)))) true])))
 (((0 : Int) ≤ (↑x.i : Int) ∧ (↑x.i : Int) < (↑L : Int)) ∧
 n = n ∧
 o = o ∧
 (0 : Nat) + (↑x.i : Int).toNat < L ∧
 ((0 : Int) ≤ (↑x_1.i : Int) ∧ (↑x_1.i : Int) < (↑(g ((0 : Nat) + (↑x.i : Int).toNat)).len : Int)) ∧
 ∃ (q : Nat),
 q < L ∧
 (g ((0 : Nat) + (↑x.i : Int).toNat)).n = (g q).n ∧
 (g ((0 : Nat) + (↑x.i : Int).toNat)).o = (g q).o ∧
 (0 : Nat) + (↑x_1.i : Int).toNat < (g q).len ∧
 ((0 : Int) ≤ (↑x.i : Int) ∧ (↑x.i : Int) < (↑L : Int)) ∧
 n = n ∧
 o = o ∧
 (0 : Nat) + (↑x.i : Int).toNat < L ∧
 ((0 : Int) ≤ c ∧ c ≤ (255 : Int) ∧ (F q ((0 : Nat) + (↑x_1.i : Int).toNat)).size ≤ (140737488355328 : Nat)) ∧
 br (!needsB (F q ((0 : Nat) + (↑x_1.i : Int).toNat)) ((↑(g ((0 : Nat) + (↑x.i : Int).toNat)).len : Int) == (1 : Int)) c.toNat.toUInt8) (x_1.n = x_1.n ∧ (0 : Nat) = (0 : Nat) ∧ (0 : Nat) = (0 : Nat) ∧ x_1.4.size ≤ x_1.4.size ∧ x_1.cap = x_1.cap ∧ (x_1.4.size = (0 : Nat) → x_1.cap = (0 : Nat) ∨ x_1.a = some (Addr.mk x_1.n (0 : Nat) none)) ∧ (x_1.4.size + (F q ((0 : Nat) + (↑x_1.i : Int).toNat)).size ≤ (9223372036854775807 : Nat) ∧ (x_1.4.size + (F q ((0 : Nat) + (↑x_1.i : Int).toNat)).size + (x_1.4.size + (F q ((0 : Nat) + (↑x_1.i : Int).toNat)).size) / (4 : Nat) + (192 : Nat)) * (1 : Nat) ≤ (281474976710656 : Nat)) ∧ ∀ (a' : Option Addr) (n13 n14 : Nat) (S' : List Nat), x_1.4.size + (F q ((0 : Nat) + (↑x_1.i : Int).toNat)).size ≤ n14 → emptyOk a' n13 (x_1.4.size + (F q ((0 : Nat) + (↑x_1.i : Int).toNat)).size) n14 → ∃ (x' : BX), (x'.i ≤ (g (↑x.i : Int).toNat).len ∧ emptyOk x'.a x'.n x'.4.size x'.cap ∧ x'.4.data.toList = upTo c.toNat.toUInt8 g F (↑x.i : Int).toNat x'.i) ∧ (g (↑x.i : Int).toNat).len - x'.i < (g (↑x.i : Int).toNat).len - x_1.i ∧ ((AV.v (Value.int IntKind.i64 (IntKind.i64.wrap ((↑x_1.i : Int) + (1 : Int))))).den = (AV.v (Value.int IntKind.i64 (↑x'.i : Int))).den ∧ (AV.os (1 : Nat) a' n13 (0 : Nat) (0 : Nat) (1 : Nat) (x_1.4.size + (F q ((0 : Nat) + (↑x_1.i : Int).toNat)).size) n14).den = (AV.os (1 : Nat) x'.a x'.n (0 : Nat) (0 : Nat) (1 : Nat) x'.4.size x'.cap).den ∧ (AV.os (0 : Nat) a n o (0 : Nat) (1 : Nat) L cap).den = (AV.os (0 : Nat) a n o (0 : Nat) (1 : Nat) L cap).den ∧ (AV.v (Value.int IntKind.u8 c)).den = (AV.v (Value.int IntKind.u8 c)).den ∧ (AV.v (Value.int IntKind.i64 (↑x.i : Int))).den = (AV.v (Value.int IntKind.i64 (↑x.i : Int))).den ∧ True) ∧ LeH [Blk.mk n (Cont.texts o L g F S false) false, Blk.mk n13 (Cont.lst (0 : Nat) (x_1.4.size + (F q ((0 : Nat) + (↑x_1.i : Int).toNat)).size) [Col.ints IntKind.u8 fun (i : Nat) => if i < x_1.4.size then byteAt x_1.4 i else if i < x_1.4.size + (F q ((0 : Nat) + (↑x_1.i : Int).toNat)).size then byteAt (F q ((0 : Nat) + (↑x_1.i : Int).toNat)) (i - x_1.4.size) else (0 : Int)] S' (some (n14, (5 : Nat)))) true] [Blk.mk n (Cont.texts o L g F S false) false, Blk.mk x'.n (Cont.lst (0 : Nat) x'.4.size [Col.ints IntKind.u8 (byteAt x'.4)] x'.S (some (x'.cap, (5 : TypeId)))) true])
 (∀ (n12 : Nat),
 n12 = n12 ∧
 x_1.n = x_1.n ∧
 (0 : Nat) = (0 : Nat) ∧
 (0 : Nat) = (0 : Nat) ∧
 x_1.4.size ≤ x_1.4.size ∧
 x_1.cap = x_1.cap ∧
 (x_1.4.size = (0 : Nat) → x_1.cap = (0 : Nat) ∨ x_1.a = some (Addr.mk x_1.n (0 : Nat) none)) ∧
 (x_1.4.size + (1 : Nat) ≤ (9223372036854775807 : Nat) ∧ (x_1.4.size + (1 : Nat) + (x_1.4.size + (1 : Nat)) / (4 : Nat) + (192 : Nat)) * (1 : Nat) ≤ (281474976710656 : Nat)) ∧
 ∀ (a' : Option Addr) (n14 n15 : Nat) (S' : List Nat),
 x_1.4.size + (1 : Nat) ≤ n15 →
 emptyOk a' n14 (x_1.4.size + (1 : Nat)) n15 →
 (∃ (x_2 : BX),
 (x_2.i ≤ (F q ((0 : Nat) + (↑x_1.i : Int).toNat)).size ∧ emptyOk x_2.a x_2.n x_2.4.size x_2.cap ∧ x_2.4.data.toList = upSep c.toNat.toUInt8 g F (↑x.i : Int).toNat (↑x_1.i : Int).toNat ++ (34 : UInt8) :: quoteL (List.take x_2.i (F q ((0 : Nat) + (↑x_1.i : Int).toNat)).data.toList)) ∧
 ((AV.v (Value.int IntKind.i64 (0 : Int))).den = (AV.v (Value.int IntKind.i64 (↑x_2.i : Int))).den ∧ (AV.os (1 : Nat) a' n14 (0 : Nat) (0 : Nat) (1 : Nat) (x_1.4.size + (1 : Nat)) n15).den = (AV.os (1 : Nat) x_2.a x_2.n (0 : Nat) (0 : Nat) (1 : Nat) x_2.4.size x_2.cap).den ∧ (AV.os (0 : Nat) a n o (0 : Nat) (1 : Nat) L cap).den = (AV.os (0 : Nat) a n o (0 : Nat) (1 : Nat) L cap).den ∧ (AV.v (Value.int IntKind.u8 c)).den = (AV.v (Value.int IntKind.u8 c)).den ∧ (AV.v (Value.int IntKind.i64 (↑x.i : Int))).den = (AV.v (Value.int IntKind.i64 (↑x.i : Int))).den ∧ (AV.v (Value.int IntKind.i64 (↑x_1.i : Int))).den = (AV.v (Value.int IntKind.i64 (↑x_1.i : Int))).den ∧ (AV.v (Value.string (F q ((0 : Nat) + (↑x_1.i : Int).toNat)))).den = (AV.v (Value.string (F q ((0 : Nat) + (↑x_1.i : Int).toNat)))).den ∧ True) ∧
 LeH
 [Blk.mk n (Cont.texts o L g F S false) false,
 Blk.mk n14
 (Cont.lst (0 : Nat) (x_1.4.size + (1 : Nat))
 [Col.ints IntKind.u8 fun (i : Nat) =>
 if i < x_1.4.size then byteAt x_1.4 i
 else
 if i < x_1.4.size + (1 : Nat) then
 match asI IntKind.u8 ((nth [AV.v (Value.int IntKind.u8 (34 : Int))] (((0 : Nat) + (i - x_1.4.size)) * (1 : Nat) + nat_lit 0)).getD (AV.v undef)) with
 | some x => x
 | none => (0 : Int)
 else (0 : Int)]
 S' (some (n15, (5 : Nat))))
 true,
 Blk.mk n12 (Cont.cells [AV.v (Value.int IntKind.u8 (34 : Int))] (5 : Nat)) true]
 [Blk.mk n (Cont.texts o L g F S false) false, Blk.mk x_2.n (Cont.lst (0 : Nat) x_2.4.size [Col.ints IntKind.u8 (byteAt x_2.4)] x_2.S (some (x_2.cap, (5 : TypeId)))) true, Blk.mk n12 (Cont.cells [AV.v (Value.int IntKind.u8 (34 : Int))] (5 : Nat)) true]) ∧
 ∀ (x_2 : BX),
 x_2.i ≤ (F q ((0 : Nat) + (↑x_1.i : Int).toNat)).size ∧ emptyOk x_2.a x_2.n x_2.4.size x_2.cap ∧ x_2.4.data.toList = upSep c.toNat.toUInt8 g F (↑x.i : Int).toNat (↑x_1.i : Int).toNat ++ (34 : UInt8) :: quoteL (List.take x_2.i (F q ((0 : Nat) + (↑x_1.i : Int).toNat)).data.toList) →
 br (decide ((↑x_2.i : Int) < (↑(F q ((0 : Nat) + (↑x_1.i : Int).toNat)).size : Int)))
 (((0 : Int) ≤ (↑x_2.i : Int) ∧ (↑x_2.i : Int) < (↑(F q ((0 : Nat) + (↑x_1.i : Int).toNat)).size : Int)) ∧
 br (byteAt (F q ((0 : Nat) + (↑x_1.i : Int).toNat)) (↑x_2.i : Int).toNat == (34 : Int))
 (∀ (n21 : Nat),
 n21 = n21 ∧
 x_2.n = x_2.n ∧
 (0 : Nat) = (0 : Nat) ∧
 (0 : Nat) = (0 : Nat) ∧
 x_2.4.size ≤ x_2.4.size ∧
 x_2.cap = x_2.cap ∧
 (x_2.4.size = (0 : Nat) → x_2.cap = (0 : Nat) ∨ x_2.a = some (Addr.mk x_2.n (0 : Nat) none)) ∧
 (x_2.4.size + (1 : Nat) ≤ (9223372036854775807 : Nat) ∧ (x_2.4.size + (1 : Nat) + (x_2.4.size + (1 : Nat)) / (4 : Nat) + (192 : Nat)) * (1 : Nat) ≤ (281474976710656 : Nat)) ∧
 ∀ (a' : Option Addr) (n23 n24 : Nat) (S' : List Nat),
 x_2.4.size + (1 : Nat) ≤ n24 →
 emptyOk a' n23 (x_2.4.size + (1 : Nat)) n24 →
 ((0 : Int) ≤ (↑x_2.i : Int) ∧ (↑x_2.i : Int) < (↑(F q ((0 : Nat) + (↑x_1.i : Int).toNat)).size : Int)) ∧
 ∀ (n28 : Nat),
 n28 = n28 ∧
 n23 = n23 ∧
 (0 : Nat) = (0 : Nat) ∧
 (0 : Nat) = (0 : Nat) ∧
 x_2.4.size + (1 : Nat) ≤ x_2.4.size + (1 : Nat) ∧
 n24 = n24 ∧
 (x_2.4.size + (1 : Nat) = (0 : Nat) → n24 = (0 : Nat) ∨ a' = some (Addr.mk n23 (0 : Nat) none)) ∧
 (x_2.4.size + (1 : Nat) + (1 : Nat) ≤ (9223372036854775807 : Nat) ∧ (x_2.4.size + (1 : Nat) + (1 : Nat) + (x_2.4.size + (1 : Nat) + (1 : Nat)) / (4 : Nat) + (192 : Nat)) * (1 : Nat) ≤ (281474976710656 : Nat)) ∧
 ∀ (a' : Option Addr) (n30 n31 : Nat) (S' : List Nat),
 x_2.4.size + (1 : Nat) + (1 : Nat) ≤ n31 →
 emptyOk a' n30 (x_2.4.size + (1 : Nat) + (1 : Nat)) n31 →
 ∃ (x' : BX),
 (x'.i ≤ (F q ((0 : Nat) + (↑x_1.i : Int).toNat)).size ∧ emptyOk x'.a x'.n x'.4.size x'.cap ∧ x'.4.data.toList = upSep c.toNat.toUInt8 g F (↑x.i : Int).toNat (↑x_1.i : Int).toNat ++ (34 : UInt8) :: quoteL (List.take x'.i (F q ((0 : Nat) + (↑x_1.i : Int).toNat)).data.toList)) ∧
 (F q ((0 : Nat) + (↑x_1.i : Int).toNat)).size - x'.i < (F q ((0 : Nat) + (↑x_1.i : Int).toNat)).size - x_2.i ∧
 ((AV.v (Value.int IntKind.i64 (IntKind.i64.wrap ((↑x_2.i : Int) + (1 : Int))))).den = (AV.v (Value.int IntKind.i64 (↑x'.i : Int))).den ∧ (AV.os (1 : Nat) a' n30 (0 : Nat) (0 : Nat) (1 : Nat) (x_2.4.size + (1 : Nat) + (1 : Nat)) n31).den = (AV.os (1 : Nat) x'.a x'.n (0 : Nat) (0 : Nat) (1 : Nat) x'.4.size x'.cap).den ∧ (AV.os (0 : Nat) a n o (0 : Nat) (1 : Nat) L cap).den = (AV.os (0 : Nat) a n o (0 : Nat) (1 : Nat) L cap).den ∧ (AV.v (Value.int IntKind.u8 c)).den = (AV.v (Value.int IntKind.u8 c)).den ∧ (AV.v (Value.int IntKind.i64 (↑x.i : Int))).den = (AV.v (Value.int IntKind.i64 (↑x.i : Int))).den ∧ (AV.v (Value.int IntKind.i64 (↑x_1.i : Int))).den = (AV.v (Value.int IntKind.i64 (↑x_1.i : Int))).den ∧ (AV.v (Value.string (F q ((0 : Nat) + (↑x_1.i : Int).toNat)))).den = (AV.v (Value.string (F q ((0 : Nat) + (↑x_1.i : Int).toNat)))).den ∧ True) ∧
 LeH
 [Blk.mk n (Cont.texts o L g F S false) false,
 Blk.mk n30
 (Cont.lst (0 : Nat) (x_2.4.size + (1 : Nat) + (1 : Nat))
 [Col.ints IntKind.u8 fun (i : Nat) =>
 if i < x_2.4.size + (1 : Nat) then
 if i < x_2.4.size then byteAt x_2.4 i
 else
 if i < x_2.4.size + (1 : Nat) then
 match asI IntKind.u8 ((nth [AV.v (Value.int IntKind.u8 (34 : Int))] (((0 : Nat) + (i - x_2.4.size)) * (1 : Nat) + nat_lit 0)).getD (AV.v undef)) with
 | some x => x
 | none => (0 : Int)
 else (0 : Int)
 else
 if i < x_2.4.size + (1 : Nat) + (1 : Nat) then
 match asI IntKind.u8 ((nth [AV.v (Value.int IntKind.u8 (byteAt (F q ((0 : Nat) + (↑x_1.i : Int).toNat)) (↑x_2.i : Int).toNat))] (((0 : Nat) + (i - (x_2.4.size + (1 : Nat)))) * (1 : Nat) + nat_lit 0)).getD (AV.v undef)) with
 | some x => x
 | none => (0 : Int)
 else (0 : Int)]
 S' (some (n31, (5 : Nat))))
 true,
 Blk.mk n12 (Cont.cells [AV.v (Value.int IntKind.u8 (34 : Int))] (5 : Nat)) true, Blk.mk n21 (Cont.cells [AV.v (Value.int IntKind.u8 (34 : Int))] (5 : Nat)) true, Blk.mk n28 (Cont.cells [AV.v (Value.int IntKind.u8 (byteAt (F q ((0 : Nat) + (↑x_1.i : Int).toNat)) (↑x_2.i : Int).toNat))] (5 : Nat)) true]
 [Blk.mk n (Cont.texts o L g F S false) false, Blk.mk x'.n (Cont.lst (0 : Nat) x'.4.size [Col.ints IntKind.u8 (byteAt x'.4)] x'.S (some (x'.cap, (5 : TypeId)))) true, Blk.mk n12 (Cont.cells [AV.v (Value.int IntKind.u8 (34 : Int))] (5 : Nat)) true])
 (((0 : Int) ≤ (↑x_2.i : Int) ∧ (↑x_2.i : Int) < (↑(F q ((0 : Nat) + (↑x_1.i : Int).toNat)).size : Int)) ∧
 ∀ (n21 : Nat),
 n21 = n21 ∧
 x_2.n = x_2.n ∧
 (0 : Nat) = (0 : Nat) ∧
 (0 : Nat) = (0 : Nat) ∧
 x_2.4.size ≤ x_2.4.size ∧
 x_2.cap = x_2.cap ∧
 (x_2.4.size = (0 : Nat) → x_2.cap = (0 : Nat) ∨ x_2.a = some (Addr.mk x_2.n (0 : Nat) none)) ∧
 (x_2.4.size + (1 : Nat) ≤ (9223372036854775807 : Nat) ∧ (x_2.4.size + (1 : Nat) + (x_2.4.size + (1 : Nat)) / (4 : Nat) + (192 : Nat)) * (1 : Nat) ≤ (281474976710656 : Nat)) ∧
 ∀ (a' : Option Addr) (n23 n24 : Nat) (S' : List Nat),
 x_2.4.size + (1 : Nat) ≤ n24 →
 emptyOk a' n23 (x_2.4.size + (1 : Nat)) n24 →
 ∃ (x' : BX),
 (x'.i ≤ (F q ((0 : Nat) + (↑x_1.i : Int).toNat)).size ∧ emptyOk x'.a x'.n x'.4.size x'.cap ∧ x'.4.data.toList = upSep c.toNat.toUInt8 g F (↑x.i : Int).toNat (↑x_1.i : Int).toNat ++ (34 : UInt8) :: quoteL (List.take x'.i (F q ((0 : Nat) + (↑x_1.i : Int).toNat)).data.toList)) ∧
 (F q ((0 : Nat) + (↑x_1.i : Int).toNat)).size - x'.i < (F q ((0 : Nat) + (↑x_1.i : Int).toNat)).size - x_2.i ∧
 ((AV.v (Value.int IntKind.i64 (IntKind.i64.wrap ((↑x_2.i : Int) + (1 : Int))))).den = (AV.v (Value.int IntKind.i64 (↑x'.i : Int))).den ∧ (AV.os (1 : Nat) a' n23 (0 : Nat) (0 : Nat) (1 : Nat) (x_2.4.size + (1 : Nat)) n24).den = (AV.os (1 : Nat) x'.a x'.n (0 : Nat) (0 : Nat) (1 : Nat) x'.4.size x'.cap).den ∧ (AV.os (0 : Nat) a n o (0 : Nat) (1 : Nat) L cap).den = (AV.os (0 : Nat) a n o (0 : Nat) (1 : Nat) L cap).den ∧ (AV.v (Value.int IntKind.u8 c)).den = (AV.v (Value.int IntKind.u8 c)).den ∧ (AV.v (Value.int IntKind.i64 (↑x.i : Int))).den = (AV.v (Value.int IntKind.i64 (↑x.i : Int))).den ∧ (AV.v (Value.int IntKind.i64 (↑x_1.i : Int))).den = (AV.v (Value.int IntKind.i64 (↑x_1.i : Int))).den ∧ (AV.v (Value.string (F q ((0 : Nat) + (↑x_1.i : Int).toNat)))).den = (AV.v (Value.string (F q ((0 : Nat) + (↑x_1.i : Int).toNat)))).den ∧ True) ∧
 LeH
 [Blk.mk n (Cont.texts o L g F S false) false,
 Blk.mk n23
 (Cont.lst (0 : Nat) (x_2.4.size + (1 : Nat))
 [Col.ints IntKind.u8 fun (i : Nat) =>
 if i < x_2.4.size then byteAt x_2.4 i
 else
 if i < x_2.4.size + (1 : Nat) then
 match asI IntKind.u8 ((nth [AV.v (Value.int IntKind.u8 (byteAt (F q ((0 : Nat) + (↑x_1.i : Int).toNat)) (↑x_2.i : Int).toNat))] (((0 : Nat) + (i - x_2.4.size)) * (1 : Nat) + nat_lit 0)).getD (AV.v undef)) with
 | some x => x
 | none => (0 : Int)
 else (0 : Int)]
 S' (some (n24, (5 : Nat))))
 true,
 Blk.mk n12 (Cont.cells [AV.v (Value.int IntKind.u8 (34 : Int))] (5 : Nat)) true, Blk.mk n21 (Cont.cells [AV.v (Value.int IntKind.u8 (byteAt (F q ((0 : Nat) + (↑x_1.i : Int).toNat)) (↑x_2.i : Int).toNat))] (5 : Nat)) true]
 [Blk.mk n (Cont.texts o L g F S false) false, Blk.mk x'.n (Cont.lst (0 : Nat) x'.4.size [Col.ints IntKind.u8 (byteAt x'.4)] x'.S (some (x'.cap, (5 : TypeId)))) true, Blk.mk n12 (Cont.cells [AV.v (Value.int IntKind.u8 (34 : Int))] (5 : Nat)) true]))
 (∀ (n21 : Nat),
 n21 = n21 ∧
 x_2.n = x_2.n ∧
 (0 : Nat) = (0 : Nat) ∧
 (0 : Nat) = (0 : Nat) ∧
 x_2.4.size ≤ x_2.4.size ∧
 x_2.cap = x_2.cap ∧
 (x_2.4.size = (0 : Nat) → x_2.cap = (0 : Nat) ∨ x_2.a = some (Addr.mk x_2.n (0 : Nat) none)) ∧
 (x_2.4.size + (1 : Nat) ≤ (9223372036854775807 : Nat) ∧ (x_2.4.size + (1 : Nat) + (x_2.4.size + (1 : Nat)) / (4 : Nat) + (192 : Nat)) * (1 : Nat) ≤ (281474976710656 : Nat)) ∧
 ∀ (a' : Option Addr) (n23 n24 : Nat) (S' : List Nat),
 x_2.4.size + (1 : Nat) ≤ n24 →
 emptyOk a' n23 (x_2.4.size + (1 : Nat)) n24 →
 ∃ (x' : BX),
 (x'.i ≤ (g (↑x.i : Int).toNat).len ∧ emptyOk x'.a x'.n x'.4.size x'.cap ∧ x'.4.data.toList = upTo c.toNat.toUInt8 g F (↑x.i : Int).toNat x'.i) ∧
 (g (↑x.i : Int).toNat).len - x'.i < (g (↑x.i : Int).toNat).len - x_1.i ∧
 ((AV.v (Value.int IntKind.i64 (IntKind.i64.wrap ((↑x_1.i : Int) + (1 : Int))))).den = (AV.v (Value.int IntKind.i64 (↑x'.i : Int))).den ∧ (AV.os (1 : Nat) a' n23 (0 : Nat) (0 : Nat) (1 : Nat) (x_2.4.size + (1 : Nat)) n24).den = (AV.os (1 : Nat) x'.a x'.n (0 : Nat) (0 : Nat) (1 : Nat) x'.4.size x'.cap).den ∧ (AV.os (0 : Nat) a n o (0 : Nat) (1 : Nat) L cap).den = (AV.os (0 : Nat) a n o (0 : Nat) (1 : Nat) L cap).den ∧ (AV.v (Value.int IntKind.u8 c)).den = (AV.v (Value.int IntKind.u8 c)).den ∧ (AV.v (Value.int IntKind.i64 (↑x.i : Int))).den = (AV.v (Value.int IntKind.i64 (↑x.i : Int))).den ∧ True) ∧
 LeH
 [Blk.mk n (Cont.texts o L g F S false) false,
 Blk.mk n23
 (Cont.lst (0 : Nat) (x_2.4.size + (1 : Nat))
 [Col.ints IntKind.u8 fun (i : Nat) =>
 if i < x_2.4.size then byteAt x_2.4 i
 else
 if i < x_2.4.size + (1 : Nat) then
 match asI IntKind.u8 ((nth [AV.v (Value.int IntKind.u8 (34 : Int))] (((0 : Nat) + (i - x_2.4.size)) * (1 : Nat) + nat_lit 0)).getD (AV.v undef)) with
 | some x => x
 | none => (0 : Int)
 else (0 : Int)]
 S' (some (n24, (5 : Nat))))
 true,
 Blk.mk n12 (Cont.cells [AV.v (Value.int IntKind.u8 (34 : Int))] (5 : Nat)) true, Blk.mk n21 (Cont.cells [AV.v (Value.int IntKind.u8 (34 : Int))] (5 : Nat)) true]
 [Blk.mk n (Cont.texts o L g F S false) false, Blk.mk x'.n (Cont.lst (0 : Nat) x'.4.size [Col.ints IntKind.u8 (byteAt x'.4)] x'.S (some (x'.cap, (5 : TypeId)))) true]))))
 (∀ (n11 : Nat),
 n11 = n11 ∧
 x_1.n = x_1.n ∧
 (0 : Nat) = (0 : Nat) ∧
 (0 : Nat) = (0 : Nat) ∧
 x_1.4.size ≤ x_1.4.size ∧
 x_1.cap = x_1.cap ∧
 (x_1.4.size = (0 : Nat) → x_1.cap = (0 : Nat) ∨ x_1.a = some (Addr.mk x_1.n (0 : Nat) none)) ∧
 (x_1.4.size + (1 : Nat) ≤ (9223372036854775807 : Nat) ∧ (x_1.4.size + (1 : Nat) + (x_1.4.size + (1 : Nat)) / (4 : Nat) + (192 : Nat)) * (1 : Nat) ≤ (281474976710656 : Nat)) ∧
 ∀ (a' : Option Addr) (n13 n14 : Nat) (S' : List Nat),
 x_1.4.size + (1 : Nat) ≤ n14 →
 emptyOk a' n13 (x_1.4.size + (1 : Nat)) n14 →
 ∃ (x' : BX),
 (x'.i ≤ L ∧ emptyOk x'.a x'.n x'.4.size x'.cap ∧ x'.4.data.toList = rowsL c.toNat.toUInt8 g F x'.i) ∧
 L - x'.i < L - x.i ∧
 ((AV.os (1 : Nat) a' n13 (0 : Nat) (0 : Nat) (1 : Nat) (x_1.4.size + (1 : Nat)) n14).den = (AV.os (1 : Nat) x'.a x'.n (0 : Nat) (0 : Nat) (1 : Nat) x'.4.size x'.cap).den ∧ (AV.v (Value.int IntKind.i64 (IntKind.i64.wrap ((↑x.i : Int) + (1 : Int))))).den = (AV.v (Value.int IntKind.i64 (↑x'.i : Int))).den ∧ (AV.os (0 : Nat) a n o (0 : Nat) (1 : Nat) L cap).den = (AV.os (0 : Nat) a n o (0 : Nat) (1 : Nat) L cap).den ∧ (AV.v (Value.int IntKind.u8 c)).den = (AV.v (Value.int IntKind.u8 c)).den ∧ True) ∧
 LeH
 [Blk.mk n (Cont.texts o L g F S false) false,
 Blk.mk n13
 (Cont.lst (0 : Nat) (x_1.4.size + (1 : Nat))
 [Col.ints IntKind.u8 fun (i : Nat) =>
 if i < x_1.4.size then byteAt x_1.4 i
 else
 if i < x_1.4.size + (1 : Nat) then
 match asI IntKind.u8 ((nth [AV.v (Value.int IntKind.u8 (10 : Int))] (((0 : Nat) + (i - x_1.4.size)) * (1 : Nat) + nat_lit 0)).getD (AV.v undef)) with
 | some x => x
 | none => (0 : Int)
 else (0 : Int)]
 S' (some (n14, (5 : Nat))))
 true,
 Blk.mk n11 (Cont.cells [AV.v (Value.int IntKind.u8 (10 : Int))] (5 : Nat)) true]
 [Blk.mk n (Cont.texts o L g F S false) false, Blk.mk x'.n (Cont.lst (0 : Nat) x'.4.size [Col.ints IntKind.u8 (byteAt x'.4)] x'.S (some (x'.cap, (5 : TypeId)))) true]))
 (x.n = x.n ∧ (0 : Nat) = (0 : Nat) ∧ (0 : Nat) + x.4.size ≤ x.4.size ∧ R (AV.tup [AV.v (Value.string (mkI (List.map (fun (i : Nat) => byteAt x.4 ((0 : Nat) + i)) (List.range x.4.size)))), AV.v (Value.int IntKind.i64 (0 : Int))])))))))
 (R (AV.tup [AV.v (Value.string (ByteArray.mk #[])), AV.v (Value.int IntKind.i64 (2 : Int))])))
 (R (AV.tup [AV.v (Value.string (ByteArray.mk #[])), AV.v (Value.int IntKind.i64 (2 : Int))])))
 (R (AV.tup [AV.v (Value.string (ByteArray.mk #[])), AV.v (Value.int IntKind.i64 (2 : Int))])))) : LC Tryd.prog 9 [.os 0 a n o 0 1 L cap, .v (.int .u8 c)] [⟨n, .texts o L g F S false, false⟩] (fun z_ _ => R z_) :=
  lc_of_exec (tbl := tl) tab_ok tl_ok mixed ((rwrJ c.toNat.toUInt8 L g F)) 2 _ Tryd.func9 rfl Tryd.ntmps9 (by decide) (by kernel_rfl) (Nat.le_of_ble_eq_true rfl) (@Eq.mpr (execN tab tl ((rwrJ c.toNat.toUInt8 L g F)) 2 Tryd.f9.ntmps [] none 0 (body Tryd.f9) (argsT [.os 0 a n o 0 1 L cap, .v (.int .u8 c)] 0) [⟨n, .texts o L g F S false, false⟩] (post Tryd.f9 tab (retK (fun z_ _ => R z_)))) _ (by kernel_rfl) h)

end Go.Proofs.YtdokphikobfakaaDoor

