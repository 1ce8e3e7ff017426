/- Undo: the plain form's history as a parcel; its methods' conditions. -/
import Derived.Test.YtkjnkepdhbpnbaaAD
import Derived.Test.YtkjnkepdhbpnbaaY11
namespace Go.Sp

/-- Marks that are read. -/
def atP1 (l : List (ByteArray × Int)) (i : Nat) : ByteArray := ((l[i]?).map (·.1)).getD (ByteArray.mk #[])
def atP2 (l : List (ByteArray × Int)) (i : Nat) : Int := ((l[i]?).map (·.2)).getD 0

end Go.Sp
namespace Go.Eng
open Go.Sp

/-- A list that is read. -/
abbrev rI (n o : Nat) (l : List Int) (S : List Nat) : Blk := ⟨n, .lst o l.length [.ints .i64 (atI l)] S none, true⟩
abbrev rM (n o : Nat) (l : List (ByteArray × Int)) (S : List Nat) : Blk := ⟨n, .lst o l.length [.strs (atP1 l), .ints .i64 (atP2 l)] S none, true⟩

/-- The plain form's history. -/
structure RH where
  most : Int
  D : List Int
  U : List Int
  a1 : Option Addr
  a2 : Option Addr
  c1 : Nat
  c2 : Nat

/-- .. as a value; its marks apart. -/
def RH.v (x : RH) (m : AV) : AV := .agg [.v (.int .i64 x.most), .v (.slice x.a1 x.D.length x.c1), .v (.slice x.a2 x.U.length x.c2), m]

/-- .. over its lists. -/
def RH.os (x : RH) (m : AV) (b1 b2 : Option Addr) (n1 o1 n2 o2 : Nat) : AV := .agg [.v (.int .i64 x.most), .os 0 b1 n1 o1 0 1 x.D.length x.c1, .os 1 b2 n2 o2 0 1 x.U.length x.c2, m]

/-- Its lists in memory. -/
def refC (x : RH) (H0 : HH) : Prop := ∃ (b1 b2 : Option Addr) (n1 o1 n2 o2 : Nat) (S1 S2 : List Nat), H0 = [rI n1 o1 x.D S1, rI n2 o2 x.U S2] ∧ (∀ m, (x.os m b1 b2 n1 o1 n2 o2).den = (x.v m).den) ∧ x.D.length ≤ x.c1 ∧ x.U.length ≤ x.c2

theorem refC_own (x : RH) (H0 : HH) (h : refC x H0) : allOwn H0 := by
  obtain ⟨b1, b2, n1, o1, n2, o2, S1, S2, rfl, _⟩ := h
  intro b hb; simp at hb; rcases hb with rfl | rfl <;> rfl

/-- .. as one known block. -/
abbrev refB (x : RH) (S : List Nat) : Blk := packB refC 0 x S

/-- The last packed block. -/
def lastR : HH → Nat → Option Nat → Option Nat
  | [], _, r => r
  | ⟨_, .res _ _ _ _, _⟩ :: H, i, _ => lastR H (i + 1) (some i)
  | _ :: H, i, r => lastR H (i + 1) r

def fndJ (l : List (ByteArray × Int)) (nm : ByteArray) : Nat → TT → HH → LI := fun _ T H => .inv Nat (fun i => ((5, .v (.int .i64 (i : Int))) :: keepT [1, 2] T, H)) (fun i => i ≤ l.length ∧ ∀ q, q < i → atP1 l q ≠ nm) (fun i => l.length - i)

end Go.Eng
namespace Go.Proofs.Ytkjnkepdhbpnbaa
open Go Go.Eng Go.Sp
set_option linter.unusedVariables false
set_option linter.unusedSimpArgs false

def tbR : Tbl := (4294967294, .ext mergeFlag) :: []

theorem tbR_ok : TblOk Try.prog tbR := ⟨flag_ok, trivial⟩


set_option maxRecDepth 100000 in
theorem rbk_vc (x : RH) (a3 : Option Addr) (l3 c3 : Nat) (b1 b2 : Option Addr) (n1 o1 n2 o2 : Nat) (S1 S2 : List Nat) {R : AV → HH → Prop} (h : (∀ (n1_1 n2_1 : Nat),
 n1_1 = n1_1 ∧
 br ((↑x.D.length : Int) == (0 : Int)) (n1_1 = n1_1 ∧ n2_1 = n2_1 ∧ n2_1 = n2_1 ∧ R (AV.tup [AV.agg [AV.v (Value.int IntKind.i64 x.1), AV.os (0 : Nat) b1 n1 o1 (0 : Nat) (1 : Nat) x.D.length x.c1, AV.os (1 : Nat) b2 n2 o2 (0 : Nat) (1 : Nat) x.U.length x.c2, AV.v (Value.slice a3 l3 c3)], AV.v (Value.int IntKind.i64 (0 : Int)), AV.v (Value.int IntKind.i64 (12 : Int))]) [Blk.mk n1 (Cont.lst o1 x.D.length [Col.ints IntKind.i64 (atI x.D)] S1 none) true, Blk.mk n2 (Cont.lst o2 x.U.length [Col.ints IntKind.i64 (atI x.U)] S2 none) true, Blk.mk n1_1 (Cont.cells [AV.v (Value.int IntKind.i64 x.1), AV.os (0 : Nat) b1 n1 o1 (0 : Nat) (1 : Nat) x.D.length x.c1, AV.os (1 : Nat) b2 n2 o2 (0 : Nat) (1 : Nat) x.U.length x.c2, AV.v (Value.slice a3 l3 c3)] (38 : Nat)) true, Blk.mk n2_1 (Cont.cells [AV.v (Value.int IntKind.i64 x.1), AV.os (0 : Nat) b1 n1 o1 (0 : Nat) (1 : Nat) x.D.length x.c1, AV.os (1 : Nat) b2 n2 o2 (0 : Nat) (1 : Nat) x.U.length x.c2, AV.v (Value.slice a3 l3 c3)] (38 : Nat)) true])
 (n1_1 = n1_1 ∧
 ((0 : Int) ≤ IntKind.i64.wrap ((↑x.D.length : Int) - (1 : Int)) ∧ IntKind.i64.wrap ((↑x.D.length : Int) - (1 : Int)) < (↑x.D.length : Int)) ∧
 n1 = n1 ∧
 o1 = o1 ∧
 (0 : Nat) + (IntKind.i64.wrap ((↑x.D.length : Int) - (1 : Int))).toNat < x.D.length ∧
 n1_1 = n1_1 ∧
 n1_1 = n1_1 ∧
 ((0 : Int) ≤ IntKind.i64.wrap ((↑x.D.length : Int) - (1 : Int)) ∧ IntKind.i64.wrap ((↑x.D.length : Int) - (1 : Int)) ≤ (↑x.c1 : Int)) ∧
 (IntKind.i64.wrap ((↑x.D.length : Int) - (1 : Int))).toNat ≤ x.D.length ∧
 ∀ (a' : Option Addr),
 ((0 : Nat) = (0 : Nat) → (0 : Nat) < x.D.length → a' = some (Addr.mk n1 (o1 + (0 : Nat)) none)) →
 n1_1 = n1_1 ∧
 n1_1 = n1_1 ∧
 ∀ (n5 : Nat),
 n2 = n2 ∧
 o2 = o2 ∧
 (0 : Nat) + x.U.length ≤ x.U.length ∧
 True ∧
 n5 = n5 ∧
 br (((1 : Nat) + x.U.length).ble (1 : Nat)) (br (x.U.length.beq (0 : Nat)) (some (Blk.mk n1_1 (Cont.cells [AV.v (Value.int IntKind.i64 x.1), AV.os (0 : Nat) b1 n1 o1 (0 : Nat) (1 : Nat) x.D.length x.c1, AV.os (1 : Nat) b2 n2 o2 (0 : Nat) (1 : Nat) x.U.length x.c2, AV.v (Value.slice a3 l3 c3)] (38 : Nat)) true) = some (Blk.mk n1_1 (Cont.cells [AV.v (Value.int IntKind.i64 x.1), AV.os (0 : Nat) b1 n1 o1 (0 : Nat) (1 : Nat) x.D.length x.c1, AV.os (1 : Nat) b2 n2 o2 (0 : Nat) (1 : Nat) x.U.length x.c2, AV.v (Value.slice a3 l3 c3)] (38 : Nat)) true) ∧ some (Blk.mk n1_1 (Cont.cells [AV.v (Value.int IntKind.i64 x.1), AV.os (0 : Nat) b1 n1 o1 (0 : Nat) (1 : Nat) x.D.length x.c1, AV.os (1 : Nat) b2 n2 o2 (0 : Nat) (1 : Nat) x.U.length x.c2, AV.v (Value.slice a3 l3 c3)] (38 : Nat)) true) = some (Blk.mk n1_1 (Cont.cells [AV.v (Value.int IntKind.i64 x.1), AV.os (0 : Nat) b1 n1 o1 (0 : Nat) (1 : Nat) x.D.length x.c1, AV.os (1 : Nat) b2 n2 o2 (0 : Nat) (1 : Nat) x.U.length x.c2, AV.v (Value.slice a3 l3 c3)] (38 : Nat)) true) ∧ some (Blk.mk n1_1 (Cont.cells [AV.v (Value.int IntKind.i64 x.1), AV.os (0 : Nat) b1 n1 o1 (0 : Nat) (1 : Nat) x.D.length x.c1, AV.os (1 : Nat) b2 n2 o2 (0 : Nat) (1 : Nat) x.U.length x.c2, AV.v (Value.slice a3 l3 c3)] (38 : Nat)) true) = some (Blk.mk n1_1 (Cont.cells [AV.v (Value.int IntKind.i64 x.1), AV.os (0 : Nat) b1 n1 o1 (0 : Nat) (1 : Nat) x.D.length x.c1, AV.os (1 : Nat) b2 n2 o2 (0 : Nat) (1 : Nat) x.U.length x.c2, AV.v (Value.slice a3 l3 c3)] (38 : Nat)) true) ∧ n2_1 = n2_1 ∧ n2_1 = n2_1 ∧ R (AV.tup [AV.agg [AV.v (Value.int IntKind.i64 x.1), AV.os (0 : Nat) a' n1 o1 (0 : Nat) (1 : Nat) ((IntKind.i64.wrap ((↑x.D.length : Int) - (1 : Int))).toNat - (0 : Nat)) (x.c1 - (0 : Nat)), AV.sl (4 : Nat) n5 (0 : Nat) (1 : Nat) (1 : Nat) (1 : Nat), AV.v (Value.slice a3 l3 c3)], AV.v (Value.int IntKind.i64 (atI x.D ((0 : Nat) + (IntKind.i64.wrap ((↑x.D.length : Int) - (1 : Int))).toNat))), AV.v (Value.int IntKind.i64 (0 : Int))]) [Blk.mk n1 (Cont.lst o1 x.D.length [Col.ints IntKind.i64 (atI x.D)] S1 none) true, Blk.mk n2 (Cont.lst o2 x.U.length [Col.ints IntKind.i64 (atI x.U)] S2 none) true, Blk.mk n1_1 (Cont.cells [AV.v (Value.int IntKind.i64 x.1), AV.os (0 : Nat) b1 n1 o1 (0 : Nat) (1 : Nat) x.D.length x.c1, AV.os (1 : Nat) b2 n2 o2 (0 : Nat) (1 : Nat) x.U.length x.c2, AV.v (Value.slice a3 l3 c3)] (38 : Nat)) true, Blk.mk n2_1 (Cont.cells [AV.v (Value.int IntKind.i64 x.1), AV.os (0 : Nat) a' n1 o1 (0 : Nat) (1 : Nat) ((IntKind.i64.wrap ((↑x.D.length : Int) - (1 : Int))).toNat - (0 : Nat)) (x.c1 - (0 : Nat)), AV.sl (4 : Nat) n5 (0 : Nat) (1 : Nat) (1 : Nat) (1 : Nat), AV.v (Value.slice a3 l3 c3)] (38 : Nat)) true, Blk.mk n5 (Cont.cells [AV.v (Value.int IntKind.i64 (atI x.D ((0 : Nat) + (IntKind.i64.wrap ((↑x.D.length : Int) - (1 : Int))).toNat)))] (3 : Nat)) true]) False)
 (((1 : Nat) + x.U.length ≤ (9223372036854775807 : Nat) ∧ ((1 : Nat) + x.U.length + ((1 : Nat) + x.U.length) / (4 : Nat) + (192 : Nat)) * (8 : Nat) ≤ (281474976710656 : Nat)) ∧
 ∀ (n6 n7 : Nat),
 (1 : Nat) + x.U.length ≤ n7 →
 some (Blk.mk n1_1 (Cont.cells [AV.v (Value.int IntKind.i64 x.1), AV.os (0 : Nat) b1 n1 o1 (0 : Nat) (1 : Nat) x.D.length x.c1, AV.os (1 : Nat) b2 n2 o2 (0 : Nat) (1 : Nat) x.U.length x.c2, AV.v (Value.slice a3 l3 c3)] (38 : Nat)) true) = some (Blk.mk n1_1 (Cont.cells [AV.v (Value.int IntKind.i64 x.1), AV.os (0 : Nat) b1 n1 o1 (0 : Nat) (1 : Nat) x.D.length x.c1, AV.os (1 : Nat) b2 n2 o2 (0 : Nat) (1 : Nat) x.U.length x.c2, AV.v (Value.slice a3 l3 c3)] (38 : Nat)) true) ∧
 some (Blk.mk n1_1 (Cont.cells [AV.v (Value.int IntKind.i64 x.1), AV.os (0 : Nat) b1 n1 o1 (0 : Nat) (1 : Nat) x.D.length x.c1, AV.os (1 : Nat) b2 n2 o2 (0 : Nat) (1 : Nat) x.U.length x.c2, AV.v (Value.slice a3 l3 c3)] (38 : Nat)) true) = some (Blk.mk n1_1 (Cont.cells [AV.v (Value.int IntKind.i64 x.1), AV.os (0 : Nat) b1 n1 o1 (0 : Nat) (1 : Nat) x.D.length x.c1, AV.os (1 : Nat) b2 n2 o2 (0 : Nat) (1 : Nat) x.U.length x.c2, AV.v (Value.slice a3 l3 c3)] (38 : Nat)) true) ∧
 some (Blk.mk n1_1 (Cont.cells [AV.v (Value.int IntKind.i64 x.1), AV.os (0 : Nat) b1 n1 o1 (0 : Nat) (1 : Nat) x.D.length x.c1, AV.os (1 : Nat) b2 n2 o2 (0 : Nat) (1 : Nat) x.U.length x.c2, AV.v (Value.slice a3 l3 c3)] (38 : Nat)) true) = some (Blk.mk n1_1 (Cont.cells [AV.v (Value.int IntKind.i64 x.1), AV.os (0 : Nat) b1 n1 o1 (0 : Nat) (1 : Nat) x.D.length x.c1, AV.os (1 : Nat) b2 n2 o2 (0 : Nat) (1 : Nat) x.U.length x.c2, AV.v (Value.slice a3 l3 c3)] (38 : Nat)) true) ∧
 n2_1 = n2_1 ∧
 n2_1 = n2_1 ∧
 R (AV.tup [AV.agg [AV.v (Value.int IntKind.i64 x.1), AV.os (0 : Nat) a' n1 o1 (0 : Nat) (1 : Nat) ((IntKind.i64.wrap ((↑x.D.length : Int) - (1 : Int))).toNat - (0 : Nat)) (x.c1 - (0 : Nat)), AV.sl (5 : Nat) n6 (0 : Nat) (1 : Nat) ((1 : Nat) + x.U.length) n7, AV.v (Value.slice a3 l3 c3)], AV.v (Value.int IntKind.i64 (atI x.D ((0 : Nat) + (IntKind.i64.wrap ((↑x.D.length : Int) - (1 : Int))).toNat))), AV.v (Value.int IntKind.i64 (0 : Int))])
 [Blk.mk n1 (Cont.lst o1 x.D.length [Col.ints IntKind.i64 (atI x.D)] S1 none) true, Blk.mk n2 (Cont.lst o2 x.U.length [Col.ints IntKind.i64 (atI x.U)] S2 none) true, Blk.mk n1_1 (Cont.cells [AV.v (Value.int IntKind.i64 x.1), AV.os (0 : Nat) b1 n1 o1 (0 : Nat) (1 : Nat) x.D.length x.c1, AV.os (1 : Nat) b2 n2 o2 (0 : Nat) (1 : Nat) x.U.length x.c2, AV.v (Value.slice a3 l3 c3)] (38 : Nat)) true, Blk.mk n2_1 (Cont.cells [AV.v (Value.int IntKind.i64 x.1), AV.os (0 : Nat) a' n1 o1 (0 : Nat) (1 : Nat) ((IntKind.i64.wrap ((↑x.D.length : Int) - (1 : Int))).toNat - (0 : Nat)) (x.c1 - (0 : Nat)), AV.sl (5 : Nat) n6 (0 : Nat) (1 : Nat) ((1 : Nat) + x.U.length) n7, AV.v (Value.slice a3 l3 c3)] (38 : Nat)) true, Blk.mk n5 (Cont.cells [AV.v (Value.int IntKind.i64 (atI x.D ((0 : Nat) + (IntKind.i64.wrap ((↑x.D.length : Int) - (1 : Int))).toNat)))] (3 : Nat)) true,
 Blk.mk n6
 (Cont.rows n7
 [Col.ints IntKind.i64 fun (i : Nat) =>
 if i < (1 : Nat) then
 match asI IntKind.i64 ((nth [AV.v (Value.int IntKind.i64 (atI x.D ((0 : Nat) + (IntKind.i64.wrap ((↑x.D.length : Int) - (1 : Int))).toNat)))] (((0 : Nat) + i) * (1 : Nat) + nat_lit 0)).getD (AV.v undef)) with
 | some x => x
 | none => (0 : Int)
 else if i < (1 : Nat) + x.U.length then atI x.U ((0 : Nat) + (i - (1 : Nat))) else (0 : Int)]
 (3 : Nat))
 true])))) : LC Try.prog 28 [x.os (.v (.slice a3 l3 c3)) b1 b2 n1 o1 n2 o2] [rI n1 o1 x.D S1, rI n2 o2 x.U S2] R :=
  lc_of_exec (tbl := tbR) tab_ok tbR_ok mixed noinv 2 _ Try.func28 rfl Try.ntmps28 (by decide) (by kernel_rfl) (Nat.le_of_ble_eq_true rfl) (@Eq.mpr (execN tab tbR noinv 2 Try.f28.ntmps [] none 0 (body Try.f28) (argsT [x.os (.v (.slice a3 l3 c3)) b1 b2 n1 o1 n2 o2] 0) [rI n1 o1 x.D S1, rI n2 o2 x.U S2] (post Try.f28 tab (retK R))) _ (by kernel_rfl) h)



set_option maxRecDepth 100000 in
theorem rag_vc (x : RH) (a3 : Option Addr) (l3 c3 : Nat) (b1 b2 : Option Addr) (n1 o1 n2 o2 : Nat) (S1 S2 : List Nat) {R : AV → HH → Prop} (h : (∀ (n1_1 n2_1 : Nat),
 n1_1 = n1_1 ∧
 br ((↑x.U.length : Int) == (0 : Int)) (n1_1 = n1_1 ∧ n2_1 = n2_1 ∧ n2_1 = n2_1 ∧ R (AV.tup [AV.agg [AV.v (Value.int IntKind.i64 x.1), AV.os (0 : Nat) b1 n1 o1 (0 : Nat) (1 : Nat) x.D.length x.c1, AV.os (1 : Nat) b2 n2 o2 (0 : Nat) (1 : Nat) x.U.length x.c2, AV.v (Value.slice a3 l3 c3)], AV.v (Value.int IntKind.i64 (0 : Int)), AV.v (Value.int IntKind.i64 (12 : Int))]) [Blk.mk n1 (Cont.lst o1 x.D.length [Col.ints IntKind.i64 (atI x.D)] S1 none) true, Blk.mk n2 (Cont.lst o2 x.U.length [Col.ints IntKind.i64 (atI x.U)] S2 none) true, Blk.mk n1_1 (Cont.cells [AV.v (Value.int IntKind.i64 x.1), AV.os (0 : Nat) b1 n1 o1 (0 : Nat) (1 : Nat) x.D.length x.c1, AV.os (1 : Nat) b2 n2 o2 (0 : Nat) (1 : Nat) x.U.length x.c2, AV.v (Value.slice a3 l3 c3)] (38 : Nat)) true, Blk.mk n2_1 (Cont.cells [AV.v (Value.int IntKind.i64 x.1), AV.os (0 : Nat) b1 n1 o1 (0 : Nat) (1 : Nat) x.D.length x.c1, AV.os (1 : Nat) b2 n2 o2 (0 : Nat) (1 : Nat) x.U.length x.c2, AV.v (Value.slice a3 l3 c3)] (38 : Nat)) true])
 (n1_1 = n1_1 ∧
 ((0 : Int) ≤ (0 : Int) ∧ (0 : Int) < (↑x.U.length : Int)) ∧
 n2 = n2 ∧
 o2 = o2 ∧
 (0 : Nat) < x.U.length ∧
 n1_1 = n1_1 ∧
 n1_1 = n1_1 ∧
 n1_1 = n1_1 ∧
 ((0 : Int) ≤ (1 : Int) ∧ (1 : Int) ≤ (↑x.U.length : Int)) ∧
 x.U.length ≤ x.c2 ∧
 x.U.length ≤ x.U.length ∧
 ∀ (a' : Option Addr),
 ((1 : Nat) = (0 : Nat) → (0 : Nat) < x.U.length → a' = some (Addr.mk n2 (o2 + (0 : Nat)) none)) →
 n1_1 = n1_1 ∧
 (∀ (n5 : Nat),
 (n1 = n1 ∧
 o1 = o1 ∧
 (0 : Nat) + x.D.length ≤ x.D.length ∧
 True ∧
 (x.D.length ≤ (9223372036854775807 : Nat) ∧ (x.D.length + x.D.length / (4 : Nat) + (192 : Nat)) * (8 : Nat) ≤ (281474976710656 : Nat)) ∧
 ∀ (a : Option Addr) (n7 n8 : Nat) (S : List Nat),
 x.D.length ≤ n8 →
 emptyOk a n7 x.D.length n8 →
 some (Blk.mk n1_1 (Cont.cells [AV.v (Value.int IntKind.i64 x.1), AV.os (0 : Nat) b1 n1 o1 (0 : Nat) (1 : Nat) x.D.length x.c1, AV.os (1 : Nat) b2 n2 o2 (0 : Nat) (1 : Nat) x.U.length x.c2, AV.v (Value.slice a3 l3 c3)] (38 : Nat)) true) = some (Blk.mk n1_1 (Cont.cells [AV.v (Value.int IntKind.i64 x.1), AV.os (0 : Nat) b1 n1 o1 (0 : Nat) (1 : Nat) x.D.length x.c1, AV.os (1 : Nat) b2 n2 o2 (0 : Nat) (1 : Nat) x.U.length x.c2, AV.v (Value.slice a3 l3 c3)] (38 : Nat)) true) ∧
 some (Blk.mk n1_1 (Cont.cells [AV.v (Value.int IntKind.i64 x.1), AV.os (0 : Nat) b1 n1 o1 (0 : Nat) (1 : Nat) x.D.length x.c1, AV.os (1 : Nat) b2 n2 o2 (0 : Nat) (1 : Nat) x.U.length x.c2, AV.v (Value.slice a3 l3 c3)] (38 : Nat)) true) = some (Blk.mk n1_1 (Cont.cells [AV.v (Value.int IntKind.i64 x.1), AV.os (0 : Nat) b1 n1 o1 (0 : Nat) (1 : Nat) x.D.length x.c1, AV.os (1 : Nat) b2 n2 o2 (0 : Nat) (1 : Nat) x.U.length x.c2, AV.v (Value.slice a3 l3 c3)] (38 : Nat)) true) ∧
 some (Blk.mk n1_1 (Cont.cells [AV.v (Value.int IntKind.i64 x.1), AV.os (0 : Nat) b1 n1 o1 (0 : Nat) (1 : Nat) x.D.length x.c1, AV.os (1 : Nat) b2 n2 o2 (0 : Nat) (1 : Nat) x.U.length x.c2, AV.v (Value.slice a3 l3 c3)] (38 : Nat)) true) = some (Blk.mk n1_1 (Cont.cells [AV.v (Value.int IntKind.i64 x.1), AV.os (0 : Nat) b1 n1 o1 (0 : Nat) (1 : Nat) x.D.length x.c1, AV.os (1 : Nat) b2 n2 o2 (0 : Nat) (1 : Nat) x.U.length x.c2, AV.v (Value.slice a3 l3 c3)] (38 : Nat)) true) ∧
 ∀ (n12 : Nat),
 n12 = n12 ∧
 n7 = n7 ∧
 (0 : Nat) = (0 : Nat) ∧
 (0 : Nat) = (0 : Nat) ∧
 x.D.length ≤ x.D.length ∧
 n8 = n8 ∧
 (x.D.length = (0 : Nat) → n8 = (0 : Nat) ∨ a = some (Addr.mk n7 (0 : Nat) none)) ∧
 (x.D.length + (1 : Nat) ≤ (9223372036854775807 : Nat) ∧ (x.D.length + (1 : Nat) + (x.D.length + (1 : Nat)) / (4 : Nat) + (192 : Nat)) * (8 : Nat) ≤ (281474976710656 : Nat)) ∧
 ∀ (a'_1 : Option Addr) (n14 n15 : Nat) (S' : List Nat),
 x.D.length + (1 : Nat) ≤ n15 →
 emptyOk a'_1 n14 (x.D.length + (1 : Nat)) n15 →
 some (Blk.mk n1_1 (Cont.cells [AV.v (Value.int IntKind.i64 x.1), AV.os (0 : Nat) b1 n1 o1 (0 : Nat) (1 : Nat) x.D.length x.c1, AV.os (1 : Nat) b2 n2 o2 (0 : Nat) (1 : Nat) x.U.length x.c2, AV.v (Value.slice a3 l3 c3)] (38 : Nat)) true) = some (Blk.mk n1_1 (Cont.cells [AV.v (Value.int IntKind.i64 x.1), AV.os (0 : Nat) b1 n1 o1 (0 : Nat) (1 : Nat) x.D.length x.c1, AV.os (1 : Nat) b2 n2 o2 (0 : Nat) (1 : Nat) x.U.length x.c2, AV.v (Value.slice a3 l3 c3)] (38 : Nat)) true) ∧
 some (Blk.mk n1_1 (Cont.cells [AV.v (Value.int IntKind.i64 x.1), AV.os (0 : Nat) b1 n1 o1 (0 : Nat) (1 : Nat) x.D.length x.c1, AV.os (1 : Nat) b2 n2 o2 (0 : Nat) (1 : Nat) x.U.length x.c2, AV.v (Value.slice a3 l3 c3)] (38 : Nat)) true) = some (Blk.mk n1_1 (Cont.cells [AV.v (Value.int IntKind.i64 x.1), AV.os (0 : Nat) b1 n1 o1 (0 : Nat) (1 : Nat) x.D.length x.c1, AV.os (1 : Nat) b2 n2 o2 (0 : Nat) (1 : Nat) x.U.length x.c2, AV.v (Value.slice a3 l3 c3)] (38 : Nat)) true) ∧
 some (Blk.mk n1_1 (Cont.cells [AV.v (Value.int IntKind.i64 x.1), AV.os (0 : Nat) b1 n1 o1 (0 : Nat) (1 : Nat) x.D.length x.c1, AV.os (1 : Nat) b2 n2 o2 (0 : Nat) (1 : Nat) x.U.length x.c2, AV.v (Value.slice a3 l3 c3)] (38 : Nat)) true) = some (Blk.mk n1_1 (Cont.cells [AV.v (Value.int IntKind.i64 x.1), AV.os (0 : Nat) b1 n1 o1 (0 : Nat) (1 : Nat) x.D.length x.c1, AV.os (1 : Nat) b2 n2 o2 (0 : Nat) (1 : Nat) x.U.length x.c2, AV.v (Value.slice a3 l3 c3)] (38 : Nat)) true) ∧
 some (Blk.mk n1_1 (Cont.cells [AV.v (Value.int IntKind.i64 x.1), AV.os (0 : Nat) b1 n1 o1 (0 : Nat) (1 : Nat) x.D.length x.c1, AV.os (1 : Nat) b2 n2 o2 (0 : Nat) (1 : Nat) x.U.length x.c2, AV.v (Value.slice a3 l3 c3)] (38 : Nat)) true) = some (Blk.mk n1_1 (Cont.cells [AV.v (Value.int IntKind.i64 x.1), AV.os (0 : Nat) b1 n1 o1 (0 : Nat) (1 : Nat) x.D.length x.c1, AV.os (1 : Nat) b2 n2 o2 (0 : Nat) (1 : Nat) x.U.length x.c2, AV.v (Value.slice a3 l3 c3)] (38 : Nat)) true) ∧
 n2_1 = n2_1 ∧
 n2_1 = n2_1 ∧
 R (AV.tup [AV.agg [AV.v (Value.int IntKind.i64 x.1), AV.os (5 : Nat) a'_1 n14 (0 : Nat) (0 : Nat) (1 : Nat) (x.D.length + (1 : Nat)) n15, AV.os (1 : Nat) a' n2 o2 (1 : Nat) (1 : Nat) (x.U.length - (1 : Nat)) (x.c2 - (1 : Nat)), AV.v (Value.slice a3 l3 c3)], AV.v (Value.int IntKind.i64 (atI x.U (0 : Nat))), AV.v (Value.int IntKind.i64 (0 : Int))])
 [Blk.mk n1 (Cont.lst o1 x.D.length [Col.ints IntKind.i64 (atI x.D)] S1 none) true, Blk.mk n2 (Cont.lst o2 x.U.length [Col.ints IntKind.i64 (atI x.U)] S2 none) true, Blk.mk n1_1 (Cont.cells [AV.v (Value.int IntKind.i64 x.1), AV.os (0 : Nat) b1 n1 o1 (0 : Nat) (1 : Nat) x.D.length x.c1, AV.os (1 : Nat) b2 n2 o2 (0 : Nat) (1 : Nat) x.U.length x.c2, AV.v (Value.slice a3 l3 c3)] (38 : Nat)) true, Blk.mk n2_1 (Cont.cells [AV.v (Value.int IntKind.i64 x.1), AV.os (5 : Nat) a'_1 n14 (0 : Nat) (0 : Nat) (1 : Nat) (x.D.length + (1 : Nat)) n15, AV.os (1 : Nat) a' n2 o2 (1 : Nat) (1 : Nat) (x.U.length - (1 : Nat)) (x.c2 - (1 : Nat)), AV.v (Value.slice a3 l3 c3)] (38 : Nat)) true, Blk.mk n5 (Cont.rows (0 : Nat) (zcols ti3.zero.cells) (3 : Nat)) true,
 Blk.mk n14
 (Cont.lst (0 : Nat) (x.D.length + (1 : Nat))
 [Col.ints IntKind.i64 fun (i : Nat) =>
 if i < x.D.length then if i < (0 : Nat) then (0 : Int) else if i < (0 : Nat) + x.D.length then atI x.D ((0 : Nat) + (i - (0 : Nat))) else (0 : Int)
 else
 if i < x.D.length + (1 : Nat) then
 match asI IntKind.i64 ((nth [AV.v (Value.int IntKind.i64 (atI x.U (0 : Nat)))] (((0 : Nat) + (i - x.D.length)) * (1 : Nat) + nat_lit 0)).getD (AV.v undef)) with
 | some x => x
 | none => (0 : Int)
 else (0 : Int)]
 S' (some (n15, (3 : Nat))))
 true,
 Blk.mk n12 (Cont.cells [AV.v (Value.int IntKind.i64 (atI x.U (0 : Nat)))] (3 : Nat)) true]) ∧
 ∀ (n6 : Nat),
 n1 = n1 ∧
 o1 = o1 ∧
 (0 : Nat) + x.D.length ≤ x.D.length ∧
 True ∧
 (x.D.length ≤ (9223372036854775807 : Nat) ∧ (x.D.length + x.D.length / (4 : Nat) + (192 : Nat)) * (8 : Nat) ≤ (281474976710656 : Nat)) ∧
 ∀ (a : Option Addr) (n8 n9 : Nat) (S : List Nat),
 x.D.length ≤ n9 →
 emptyOk a n8 x.D.length n9 →
 some (Blk.mk n1_1 (Cont.cells [AV.v (Value.int IntKind.i64 x.1), AV.os (0 : Nat) b1 n1 o1 (0 : Nat) (1 : Nat) x.D.length x.c1, AV.os (1 : Nat) b2 n2 o2 (0 : Nat) (1 : Nat) x.U.length x.c2, AV.v (Value.slice a3 l3 c3)] (38 : Nat)) true) = some (Blk.mk n1_1 (Cont.cells [AV.v (Value.int IntKind.i64 x.1), AV.os (0 : Nat) b1 n1 o1 (0 : Nat) (1 : Nat) x.D.length x.c1, AV.os (1 : Nat) b2 n2 o2 (0 : Nat) (1 : Nat) x.U.length x.c2, AV.v (Value.slice a3 l3 c3)] (38 : Nat)) true) ∧
 some (Blk.mk n1_1 (Cont.cells [AV.v (Value.int IntKind.i64 x.1), AV.os (0 : Nat) b1 n1 o1 (0 : Nat) (1 : Nat) x.D.length x.c1, AV.os (1 : Nat) b2 n2 o2 (0 : Nat) (1 : Nat) x.U.length x.c2, AV.v (Value.slice a3 l3 c3)] (38 : Nat)) true) = some (Blk.mk n1_1 (Cont.cells [AV.v (Value.int IntKind.i64 x.1), AV.os (0 : Nat) b1 n1 o1 (0 : Nat) (1 : Nat) x.D.length x.c1, AV.os (1 : Nat) b2 n2 o2 (0 : Nat) (1 : Nat) x.U.length x.c2, AV.v (Value.slice a3 l3 c3)] (38 : Nat)) true) ∧
 some (Blk.mk n1_1 (Cont.cells [AV.v (Value.int IntKind.i64 x.1), AV.os (0 : Nat) b1 n1 o1 (0 : Nat) (1 : Nat) x.D.length x.c1, AV.os (1 : Nat) b2 n2 o2 (0 : Nat) (1 : Nat) x.U.length x.c2, AV.v (Value.slice a3 l3 c3)] (38 : Nat)) true) = some (Blk.mk n1_1 (Cont.cells [AV.v (Value.int IntKind.i64 x.1), AV.os (0 : Nat) b1 n1 o1 (0 : Nat) (1 : Nat) x.D.length x.c1, AV.os (1 : Nat) b2 n2 o2 (0 : Nat) (1 : Nat) x.U.length x.c2, AV.v (Value.slice a3 l3 c3)] (38 : Nat)) true) ∧
 n6 = n6 ∧
 n8 = n8 ∧
 (0 : Nat) = (0 : Nat) ∧
 (0 : Nat) = (0 : Nat) ∧
 x.D.length ≤ x.D.length ∧
 n9 = n9 ∧
 (x.D.length = (0 : Nat) → n9 = (0 : Nat) ∨ a = some (Addr.mk n8 (0 : Nat) none)) ∧
 (x.D.length + (1 : Nat) ≤ (9223372036854775807 : Nat) ∧ (x.D.length + (1 : Nat) + (x.D.length + (1 : Nat)) / (4 : Nat) + (192 : Nat)) * (8 : Nat) ≤ (281474976710656 : Nat)) ∧
 ∀ (a'_1 : Option Addr) (n14 n15 : Nat) (S' : List Nat),
 x.D.length + (1 : Nat) ≤ n15 →
 emptyOk a'_1 n14 (x.D.length + (1 : Nat)) n15 →
 some (Blk.mk n1_1 (Cont.cells [AV.v (Value.int IntKind.i64 x.1), AV.os (0 : Nat) b1 n1 o1 (0 : Nat) (1 : Nat) x.D.length x.c1, AV.os (1 : Nat) b2 n2 o2 (0 : Nat) (1 : Nat) x.U.length x.c2, AV.v (Value.slice a3 l3 c3)] (38 : Nat)) true) = some (Blk.mk n1_1 (Cont.cells [AV.v (Value.int IntKind.i64 x.1), AV.os (0 : Nat) b1 n1 o1 (0 : Nat) (1 : Nat) x.D.length x.c1, AV.os (1 : Nat) b2 n2 o2 (0 : Nat) (1 : Nat) x.U.length x.c2, AV.v (Value.slice a3 l3 c3)] (38 : Nat)) true) ∧
 some (Blk.mk n1_1 (Cont.cells [AV.v (Value.int IntKind.i64 x.1), AV.os (0 : Nat) b1 n1 o1 (0 : Nat) (1 : Nat) x.D.length x.c1, AV.os (1 : Nat) b2 n2 o2 (0 : Nat) (1 : Nat) x.U.length x.c2, AV.v (Value.slice a3 l3 c3)] (38 : Nat)) true) = some (Blk.mk n1_1 (Cont.cells [AV.v (Value.int IntKind.i64 x.1), AV.os (0 : Nat) b1 n1 o1 (0 : Nat) (1 : Nat) x.D.length x.c1, AV.os (1 : Nat) b2 n2 o2 (0 : Nat) (1 : Nat) x.U.length x.c2, AV.v (Value.slice a3 l3 c3)] (38 : Nat)) true) ∧
 some (Blk.mk n1_1 (Cont.cells [AV.v (Value.int IntKind.i64 x.1), AV.os (0 : Nat) b1 n1 o1 (0 : Nat) (1 : Nat) x.D.length x.c1, AV.os (1 : Nat) b2 n2 o2 (0 : Nat) (1 : Nat) x.U.length x.c2, AV.v (Value.slice a3 l3 c3)] (38 : Nat)) true) = some (Blk.mk n1_1 (Cont.cells [AV.v (Value.int IntKind.i64 x.1), AV.os (0 : Nat) b1 n1 o1 (0 : Nat) (1 : Nat) x.D.length x.c1, AV.os (1 : Nat) b2 n2 o2 (0 : Nat) (1 : Nat) x.U.length x.c2, AV.v (Value.slice a3 l3 c3)] (38 : Nat)) true) ∧
 some (Blk.mk n1_1 (Cont.cells [AV.v (Value.int IntKind.i64 x.1), AV.os (0 : Nat) b1 n1 o1 (0 : Nat) (1 : Nat) x.D.length x.c1, AV.os (1 : Nat) b2 n2 o2 (0 : Nat) (1 : Nat) x.U.length x.c2, AV.v (Value.slice a3 l3 c3)] (38 : Nat)) true) = some (Blk.mk n1_1 (Cont.cells [AV.v (Value.int IntKind.i64 x.1), AV.os (0 : Nat) b1 n1 o1 (0 : Nat) (1 : Nat) x.D.length x.c1, AV.os (1 : Nat) b2 n2 o2 (0 : Nat) (1 : Nat) x.U.length x.c2, AV.v (Value.slice a3 l3 c3)] (38 : Nat)) true) ∧
 n2_1 = n2_1 ∧
 n2_1 = n2_1 ∧
 R (AV.tup [AV.agg [AV.v (Value.int IntKind.i64 x.1), AV.os (6 : Nat) a'_1 n14 (0 : Nat) (0 : Nat) (1 : Nat) (x.D.length + (1 : Nat)) n15, AV.os (1 : Nat) a' n2 o2 (1 : Nat) (1 : Nat) (x.U.length - (1 : Nat)) (x.c2 - (1 : Nat)), AV.v (Value.slice a3 l3 c3)], AV.v (Value.int IntKind.i64 (atI x.U (0 : Nat))), AV.v (Value.int IntKind.i64 (0 : Int))])
 [Blk.mk n1 (Cont.lst o1 x.D.length [Col.ints IntKind.i64 (atI x.D)] S1 none) true, Blk.mk n2 (Cont.lst o2 x.U.length [Col.ints IntKind.i64 (atI x.U)] S2 none) true, Blk.mk n1_1 (Cont.cells [AV.v (Value.int IntKind.i64 x.1), AV.os (0 : Nat) b1 n1 o1 (0 : Nat) (1 : Nat) x.D.length x.c1, AV.os (1 : Nat) b2 n2 o2 (0 : Nat) (1 : Nat) x.U.length x.c2, AV.v (Value.slice a3 l3 c3)] (38 : Nat)) true, Blk.mk n2_1 (Cont.cells [AV.v (Value.int IntKind.i64 x.1), AV.os (6 : Nat) a'_1 n14 (0 : Nat) (0 : Nat) (1 : Nat) (x.D.length + (1 : Nat)) n15, AV.os (1 : Nat) a' n2 o2 (1 : Nat) (1 : Nat) (x.U.length - (1 : Nat)) (x.c2 - (1 : Nat)), AV.v (Value.slice a3 l3 c3)] (38 : Nat)) true, Blk.mk n5 (Cont.rows (0 : Nat) (zcols ti3.zero.cells) (3 : Nat)) true, Blk.mk n6 (Cont.cells [AV.v (Value.int IntKind.i64 (atI x.U (0 : Nat)))] (3 : Nat)) true,
 Blk.mk n14
 (Cont.lst (0 : Nat) (x.D.length + (1 : Nat))
 [Col.ints IntKind.i64 fun (i : Nat) =>
 if i < x.D.length then if i < (0 : Nat) then (0 : Int) else if i < (0 : Nat) + x.D.length then atI x.D ((0 : Nat) + (i - (0 : Nat))) else (0 : Int)
 else
 if i < x.D.length + (1 : Nat) then
 match asI IntKind.i64 ((nth [AV.v (Value.int IntKind.i64 (atI x.U (0 : Nat)))] (((0 : Nat) + (i - x.D.length)) * (1 : Nat) + nat_lit 0)).getD (AV.v undef)) with
 | some x => x
 | none => (0 : Int)
 else (0 : Int)]
 S' (some (n15, (3 : Nat))))
 true]) ∧
 ∀ (n5 n6 : Nat),
 n1 = n1 ∧
 o1 = o1 ∧
 (0 : Nat) + x.D.length ≤ x.D.length ∧
 True ∧
 (x.D.length ≤ (9223372036854775807 : Nat) ∧ (x.D.length + x.D.length / (4 : Nat) + (192 : Nat)) * (8 : Nat) ≤ (281474976710656 : Nat)) ∧
 ∀ (a : Option Addr) (n8 n9 : Nat) (S : List Nat),
 x.D.length ≤ n9 →
 emptyOk a n8 x.D.length n9 →
 some (Blk.mk n1_1 (Cont.cells [AV.v (Value.int IntKind.i64 x.1), AV.os (0 : Nat) b1 n1 o1 (0 : Nat) (1 : Nat) x.D.length x.c1, AV.os (1 : Nat) b2 n2 o2 (0 : Nat) (1 : Nat) x.U.length x.c2, AV.v (Value.slice a3 l3 c3)] (38 : Nat)) true) = some (Blk.mk n1_1 (Cont.cells [AV.v (Value.int IntKind.i64 x.1), AV.os (0 : Nat) b1 n1 o1 (0 : Nat) (1 : Nat) x.D.length x.c1, AV.os (1 : Nat) b2 n2 o2 (0 : Nat) (1 : Nat) x.U.length x.c2, AV.v (Value.slice a3 l3 c3)] (38 : Nat)) true) ∧
 some (Blk.mk n1_1 (Cont.cells [AV.v (Value.int IntKind.i64 x.1), AV.os (0 : Nat) b1 n1 o1 (0 : Nat) (1 : Nat) x.D.length x.c1, AV.os (1 : Nat) b2 n2 o2 (0 : Nat) (1 : Nat) x.U.length x.c2, AV.v (Value.slice a3 l3 c3)] (38 : Nat)) true) = some (Blk.mk n1_1 (Cont.cells [AV.v (Value.int IntKind.i64 x.1), AV.os (0 : Nat) b1 n1 o1 (0 : Nat) (1 : Nat) x.D.length x.c1, AV.os (1 : Nat) b2 n2 o2 (0 : Nat) (1 : Nat) x.U.length x.c2, AV.v (Value.slice a3 l3 c3)] (38 : Nat)) true) ∧
 some (Blk.mk n1_1 (Cont.cells [AV.v (Value.int IntKind.i64 x.1), AV.os (0 : Nat) b1 n1 o1 (0 : Nat) (1 : Nat) x.D.length x.c1, AV.os (1 : Nat) b2 n2 o2 (0 : Nat) (1 : Nat) x.U.length x.c2, AV.v (Value.slice a3 l3 c3)] (38 : Nat)) true) = some (Blk.mk n1_1 (Cont.cells [AV.v (Value.int IntKind.i64 x.1), AV.os (0 : Nat) b1 n1 o1 (0 : Nat) (1 : Nat) x.D.length x.c1, AV.os (1 : Nat) b2 n2 o2 (0 : Nat) (1 : Nat) x.U.length x.c2, AV.v (Value.slice a3 l3 c3)] (38 : Nat)) true) ∧
 n5 = n5 ∧
 n8 = n8 ∧
 (0 : Nat) = (0 : Nat) ∧
 (0 : Nat) = (0 : Nat) ∧
 x.D.length ≤ x.D.length ∧
 n9 = n9 ∧
 (x.D.length = (0 : Nat) → n9 = (0 : Nat) ∨ a = some (Addr.mk n8 (0 : Nat) none)) ∧
 (x.D.length + (1 : Nat) ≤ (9223372036854775807 : Nat) ∧ (x.D.length + (1 : Nat) + (x.D.length + (1 : Nat)) / (4 : Nat) + (192 : Nat)) * (8 : Nat) ≤ (281474976710656 : Nat)) ∧
 ∀ (a'_1 : Option Addr) (n14 n15 : Nat) (S' : List Nat),
 x.D.length + (1 : Nat) ≤ n15 →
 emptyOk a'_1 n14 (x.D.length + (1 : Nat)) n15 →
 some (Blk.mk n1_1 (Cont.cells [AV.v (Value.int IntKind.i64 x.1), AV.os (0 : Nat) b1 n1 o1 (0 : Nat) (1 : Nat) x.D.length x.c1, AV.os (1 : Nat) b2 n2 o2 (0 : Nat) (1 : Nat) x.U.length x.c2, AV.v (Value.slice a3 l3 c3)] (38 : Nat)) true) = some (Blk.mk n1_1 (Cont.cells [AV.v (Value.int IntKind.i64 x.1), AV.os (0 : Nat) b1 n1 o1 (0 : Nat) (1 : Nat) x.D.length x.c1, AV.os (1 : Nat) b2 n2 o2 (0 : Nat) (1 : Nat) x.U.length x.c2, AV.v (Value.slice a3 l3 c3)] (38 : Nat)) true) ∧
 some (Blk.mk n1_1 (Cont.cells [AV.v (Value.int IntKind.i64 x.1), AV.os (0 : Nat) b1 n1 o1 (0 : Nat) (1 : Nat) x.D.length x.c1, AV.os (1 : Nat) b2 n2 o2 (0 : Nat) (1 : Nat) x.U.length x.c2, AV.v (Value.slice a3 l3 c3)] (38 : Nat)) true) = some (Blk.mk n1_1 (Cont.cells [AV.v (Value.int IntKind.i64 x.1), AV.os (0 : Nat) b1 n1 o1 (0 : Nat) (1 : Nat) x.D.length x.c1, AV.os (1 : Nat) b2 n2 o2 (0 : Nat) (1 : Nat) x.U.length x.c2, AV.v (Value.slice a3 l3 c3)] (38 : Nat)) true) ∧
 some (Blk.mk n1_1 (Cont.cells [AV.v (Value.int IntKind.i64 x.1), AV.os (0 : Nat) b1 n1 o1 (0 : Nat) (1 : Nat) x.D.length x.c1, AV.os (1 : Nat) b2 n2 o2 (0 : Nat) (1 : Nat) x.U.length x.c2, AV.v (Value.slice a3 l3 c3)] (38 : Nat)) true) = some (Blk.mk n1_1 (Cont.cells [AV.v (Value.int IntKind.i64 x.1), AV.os (0 : Nat) b1 n1 o1 (0 : Nat) (1 : Nat) x.D.length x.c1, AV.os (1 : Nat) b2 n2 o2 (0 : Nat) (1 : Nat) x.U.length x.c2, AV.v (Value.slice a3 l3 c3)] (38 : Nat)) true) ∧
 some (Blk.mk n1_1 (Cont.cells [AV.v (Value.int IntKind.i64 x.1), AV.os (0 : Nat) b1 n1 o1 (0 : Nat) (1 : Nat) x.D.length x.c1, AV.os (1 : Nat) b2 n2 o2 (0 : Nat) (1 : Nat) x.U.length x.c2, AV.v (Value.slice a3 l3 c3)] (38 : Nat)) true) = some (Blk.mk n1_1 (Cont.cells [AV.v (Value.int IntKind.i64 x.1), AV.os (0 : Nat) b1 n1 o1 (0 : Nat) (1 : Nat) x.D.length x.c1, AV.os (1 : Nat) b2 n2 o2 (0 : Nat) (1 : Nat) x.U.length x.c2, AV.v (Value.slice a3 l3 c3)] (38 : Nat)) true) ∧
 n2_1 = n2_1 ∧
 n2_1 = n2_1 ∧
 R (AV.tup [AV.agg [AV.v (Value.int IntKind.i64 x.1), AV.os (6 : Nat) a'_1 n14 (0 : Nat) (0 : Nat) (1 : Nat) (x.D.length + (1 : Nat)) n15, AV.os (1 : Nat) a' n2 o2 (1 : Nat) (1 : Nat) (x.U.length - (1 : Nat)) (x.c2 - (1 : Nat)), AV.v (Value.slice a3 l3 c3)], AV.v (Value.int IntKind.i64 (atI x.U (0 : Nat))), AV.v (Value.int IntKind.i64 (0 : Int))])
 [Blk.mk n1 (Cont.lst o1 x.D.length [Col.ints IntKind.i64 (atI x.D)] S1 none) true, Blk.mk n2 (Cont.lst o2 x.U.length [Col.ints IntKind.i64 (atI x.U)] S2 none) true, Blk.mk n1_1 (Cont.cells [AV.v (Value.int IntKind.i64 x.1), AV.os (0 : Nat) b1 n1 o1 (0 : Nat) (1 : Nat) x.D.length x.c1, AV.os (1 : Nat) b2 n2 o2 (0 : Nat) (1 : Nat) x.U.length x.c2, AV.v (Value.slice a3 l3 c3)] (38 : Nat)) true, Blk.mk n2_1 (Cont.cells [AV.v (Value.int IntKind.i64 x.1), AV.os (6 : Nat) a'_1 n14 (0 : Nat) (0 : Nat) (1 : Nat) (x.D.length + (1 : Nat)) n15, AV.os (1 : Nat) a' n2 o2 (1 : Nat) (1 : Nat) (x.U.length - (1 : Nat)) (x.c2 - (1 : Nat)), AV.v (Value.slice a3 l3 c3)] (38 : Nat)) true, Blk.mk n5 (Cont.cells [AV.v (Value.int IntKind.i64 (atI x.U (0 : Nat)))] (3 : Nat)) true, Blk.mk n6 (Cont.rows (0 : Nat) (zcols ti3.zero.cells) (3 : Nat)) true,
 Blk.mk n14
 (Cont.lst (0 : Nat) (x.D.length + (1 : Nat))
 [Col.ints IntKind.i64 fun (i : Nat) =>
 if i < x.D.length then if i < (0 : Nat) then (0 : Int) else if i < (0 : Nat) + x.D.length then atI x.D ((0 : Nat) + (i - (0 : Nat))) else (0 : Int)
 else
 if i < x.D.length + (1 : Nat) then
 match asI IntKind.i64 ((nth [AV.v (Value.int IntKind.i64 (atI x.U (0 : Nat)))] (((0 : Nat) + (i - x.D.length)) * (1 : Nat) + nat_lit 0)).getD (AV.v undef)) with
 | some x => x
 | none => (0 : Int)
 else (0 : Int)]
 S' (some (n15, (3 : Nat))))
 true]))) : LC Try.prog 29 [x.os (.v (.slice a3 l3 c3)) b1 b2 n1 o1 n2 o2] [rI n1 o1 x.D S1, rI n2 o2 x.U S2] R :=
  lc_of_exec (tbl := tbR) tab_ok tbR_ok mixed noinv 2 _ Try.func29 rfl Try.ntmps29 (by decide) (by kernel_rfl) (Nat.le_of_ble_eq_true rfl) (@Eq.mpr (execN tab tbR noinv 2 Try.f29.ntmps [] none 0 (body Try.f29) (argsT [x.os (.v (.slice a3 l3 c3)) b1 b2 n1 o1 n2 o2] 0) [rI n1 o1 x.D S1, rI n2 o2 x.U S2] (post Try.f29 tab (retK R))) _ (by kernel_rfl) h)



set_option maxRecDepth 100000 in
theorem rfd_vc (most : Int) (a1 a2 b3 : Option Addr) (l1 l2 k1 k2 n3 o3 c3 : Nat) (M : List (ByteArray × Int)) (S3 : List Nat) (nm : ByteArray) {R : AV → Prop} (h : (∀ (n1 : Nat), (∃ (x : Nat), (x ≤ M.length ∧ ∀ (q : Nat), q < x → atP1 M q ≠ nm) ∧ ((AV.v (Value.int IntKind.i64 (0 : Int))).den = (AV.v (Value.int IntKind.i64 (↑x : Int))).den ∧ (AV.v (Value.string nm)).den = (AV.v (Value.string nm)).den ∧ (AV.ptr (1 : Nat) n1 (0 : Nat)).den = (AV.ptr (1 : Nat) n1 (0 : Nat)).den ∧ True) ∧ LeH [Blk.mk n3 (Cont.lst o3 M.length [Col.strs (atP1 M), Col.ints IntKind.i64 (atP2 M)] S3 none) false, Blk.mk n1 (Cont.cells [AV.v (Value.int IntKind.i64 most), AV.v (Value.slice a1 l1 k1), AV.v (Value.slice a2 l2 k2), AV.os (0 : Nat) b3 n3 o3 (0 : Nat) (2 : Nat) M.length c3] (38 : Nat)) true] [Blk.mk n3 (Cont.lst o3 M.length [Col.strs (atP1 M), Col.ints IntKind.i64 (atP2 M)] S3 none) false, Blk.mk n1 (Cont.cells [AV.v (Value.int IntKind.i64 most), AV.v (Value.slice a1 l1 k1), AV.v (Value.slice a2 l2 k2), AV.os (0 : Nat) b3 n3 o3 (0 : Nat) (2 : Nat) M.length c3] (38 : Nat)) true]) ∧ ∀ (n2 : Nat), (n2 ≤ M.length ∧ ∀ (q : Nat), q < n2 → atP1 M q ≠ nm) → n1 = n1 ∧ br (decide ((↑n2 : Int) < (↑M.length : Int))) (n1 = n1 ∧ ((0 : Int) ≤ (↑n2 : Int) ∧ (↑n2 : Int) < (↑M.length : Int)) ∧ n3 = n3 ∧ o3 = o3 ∧ (0 : Nat) + (↑n2 : Int).toNat < M.length ∧ br (eqS (atP1 M ((0 : Nat) + (↑n2 : Int).toNat)) nm) (R (AV.v (Value.int IntKind.i64 (↑n2 : Int)))) (∃ (x' : Nat), (x' ≤ M.length ∧ ∀ (q : Nat), q < x' → atP1 M q ≠ nm) ∧ M.length - x' < M.length - n2 ∧ ((AV.v (Value.int IntKind.i64 (IntKind.i64.wrap ((↑n2 : Int) + (1 : Int))))).den = (AV.v (Value.int IntKind.i64 (↑x' : Int))).den ∧ (AV.v (Value.string nm)).den = (AV.v (Value.string nm)).den ∧ (AV.ptr (1 : Nat) n1 (0 : Nat)).den = (AV.ptr (1 : Nat) n1 (0 : Nat)).den ∧ True) ∧ LeH [Blk.mk n3 (Cont.lst o3 M.length [Col.strs (atP1 M), Col.ints IntKind.i64 (atP2 M)] S3 none) false, Blk.mk n1 (Cont.cells [AV.v (Value.int IntKind.i64 most), AV.v (Value.slice a1 l1 k1), AV.v (Value.slice a2 l2 k2), AV.os (0 : Nat) b3 n3 o3 (0 : Nat) (2 : Nat) M.length c3] (38 : Nat)) true] [Blk.mk n3 (Cont.lst o3 M.length [Col.strs (atP1 M), Col.ints IntKind.i64 (atP2 M)] S3 none) false, Blk.mk n1 (Cont.cells [AV.v (Value.int IntKind.i64 most), AV.v (Value.slice a1 l1 k1), AV.v (Value.slice a2 l2 k2), AV.os (0 : Nat) b3 n3 o3 (0 : Nat) (2 : Nat) M.length c3] (38 : Nat)) true])) (R (AV.v (Value.int IntKind.i64 (-1 : Int)))))) : LC Try.prog 40 [.agg [.v (.int .i64 most), .v (.slice a1 l1 k1), .v (.slice a2 l2 k2), .os 0 b3 n3 o3 0 2 M.length c3], .v (.string nm)] [⟨n3, .lst o3 M.length [.strs (atP1 M), .ints .i64 (atP2 M)] S3 none, false⟩] (fun z_ _ => R z_) :=
  lc_of_exec (tbl := tbR) tab_ok tbR_ok mixed ((fndJ M nm)) 2 _ Try.func40 rfl Try.ntmps40 (by decide) (by kernel_rfl) (Nat.le_of_ble_eq_true rfl) (@Eq.mpr (execN tab tbR ((fndJ M nm)) 2 Try.f40.ntmps [] none 0 (body Try.f40) (argsT [.agg [.v (.int .i64 most), .v (.slice a1 l1 k1), .v (.slice a2 l2 k2), .os 0 b3 n3 o3 0 2 M.length c3], .v (.string nm)] 0) [⟨n3, .lst o3 M.length [.strs (atP1 M), .ints .i64 (atP2 M)] S3 none, false⟩] (post Try.f40 tab (retK (fun z_ _ => R z_)))) _ (by kernel_rfl) h)


end Go.Proofs.Ytkjnkepdhbpnbaa

namespace Go.Eng
open Go.Sp

/-- What one back makes of it; one again. -/
def relB (x x' : RH) (y code : Int) : Prop := x'.most = x.most ∧ ((x.D = [] ∧ x'.D = [] ∧ x'.U = x.U ∧ y = 0 ∧ code = 12) ∨ (x.D = x'.D ++ [y] ∧ x'.U = y :: x.U ∧ code = 0))
def relA (x x' : RH) (y code : Int) : Prop := x'.most = x.most ∧ ((x.U = [] ∧ x'.U = [] ∧ x'.D = x.D ∧ y = 0 ∧ code = 12) ∨ (x.U = y :: x'.U ∧ x'.D = x.D ++ [y] ∧ code = 0))

/-- One that is made of lists. -/
def mkR (most : Int) (D U : List Int) (b1 b2 : Option Addr) (n1 o1 n2 o2 c1 c2 : Nat) : RH :=
  ⟨most, D, U, if D.length = 0 then b1 else some ⟨n1, o1, none⟩, if U.length = 0 then b2 else some ⟨n2, o2, none⟩, c1, c2⟩

theorem mkR_den {most : Int} {D U : List Int} {b1 b2 : Option Addr} {n1 o1 n2 o2 c1 c2 : Nat} (m : AV) : ((mkR most D U b1 b2 n1 o1 n2 o2 c1 c2).os m b1 b2 n1 o1 n2 o2).den = ((mkR most D U b1 b2 n1 o1 n2 o2 c1 c2).v m).den := by
  simp only [RH.os, RH.v, mkR, AV.den, denL, Nat.zero_mul, Nat.add_zero]

theorem tup3_den {a b y c : AV} (h : a.den = b.den) : (AV.tup [a, y, c]).den = (AV.tup [b, y, c]).den := by simp only [AV.den, denL, h]

/-- One thing fewer at the front. -/
theorem LeB.tail {n o N : Nat} {g g' : Nat → Int} {S : List Nat} {wr : Option (Nat × TypeId)} {own own' : Bool} {k : IntKind} (ho : own' = true → own = true) (h : ∀ i, i + 1 < N → g' i = g (i + 1)) : LeB ⟨n, .lst o N [.ints k g] S wr, own⟩ ⟨n, .lst (o + 1) (N - 1) [.ints k g'] S none, own'⟩ := by
  refine ⟨fun k hk => hk, ho, fun w hw => ?_⟩
  obtain ⟨h1, h2, h3⟩ := hw
  refine ⟨h1, fun hn => ?_, fun cap ty e => (by cases e)⟩
  obtain ⟨g1, c, ty, fz, g2, g3⟩ := h2 (by omega)
  refine ⟨g1, c, ty, fz, g2, fun i hi j x hx => ?_⟩
  cases j with
  | zero =>
    simp only [rowOf, Col.at, List.getElem?_cons_zero, Option.some.injEq] at hx
    have := g3 (i + 1) (by omega) 0 _ rfl
    simp only [Col.at] at this
    subst hx
    rw [h i (by omega)]
    simp only [List.length_cons, List.length_nil] at this ⊢
    rw [← this]
    congr 1
    omega
  | succ j => simp [rowOf] at hx

/-- One thing alone. -/
theorem LeB.one {n : Nat} {v : Int} {ty : TypeId} {g : Nat → Int} {k : IntKind} {own own' : Bool} (ho : own' = true → own = true) (h : g 0 = v) : LeB ⟨n, .cells [.v (.int k v)] ty, own⟩ ⟨n, .lst 0 1 [.ints k g] [n] none, own'⟩ := by
  refine ⟨fun k hk => hk, ho, fun w hw => ?_⟩
  obtain ⟨fz, h1, _⟩ := hw
  refine ⟨fun k hk => ?_, fun _ => ⟨List.mem_singleton.2 rfl, _, ty, fz, h1, fun i hi j x hx => ?_⟩, fun cap ty e => (by cases e)⟩
  · cases List.mem_singleton.1 hk; exact lt_of_some h1
  · obtain rfl : i = 0 := by omega
    cases j with
    | zero => simp only [rowOf, Col.at, List.getElem?_cons_zero, Option.some.injEq] at hx; subst hx; rw [h]; rfl
    | succ j => simp [rowOf] at hx

def rbackH : Handler := fun _ args H K =>
  match lastR H 0 none, args with
  | some id, [.agg [.v (.int .i64 q), .v (.slice a1 l1 k1), .v (.slice a2 l2 k2), m]] => ∃ (x : RH) (S : List Nat) (a3 : Option Addr) (l3 c3 : Nat), nth H id = some (refB x S) ∧ x.v m = .agg [.v (.int .i64 q), .v (.slice a1 l1 k1), .v (.slice a2 l2 k2), m] ∧ m.den = .slice a3 l3 c3 ∧ (x.D.length ≤ 1048576 ∧ x.U.length ≤ 1048576) ∧ ∀ (x' : RH) (y code : Int) (S' : List Nat), relB x x' y code → K (.ret (.tup [x'.v m, .v (.int .i64 y), .v (.int .i64 code)])) (H.set id (refB x' S'))
  | _, _ => False
def ragainH : Handler := fun _ args H K =>
  match lastR H 0 none, args with
  | some id, [.agg [.v (.int .i64 q), .v (.slice a1 l1 k1), .v (.slice a2 l2 k2), m]] => ∃ (x : RH) (S : List Nat) (a3 : Option Addr) (l3 c3 : Nat), nth H id = some (refB x S) ∧ x.v m = .agg [.v (.int .i64 q), .v (.slice a1 l1 k1), .v (.slice a2 l2 k2), m] ∧ m.den = .slice a3 l3 c3 ∧ (x.D.length ≤ 1048576 ∧ x.U.length ≤ 1048576) ∧ ∀ (x' : RH) (y code : Int) (S' : List Nat), relA x x' y code → K (.ret (.tup [x'.v m, .v (.int .i64 y), .v (.int .i64 code)])) (H.set id (refB x' S'))
  | _, _ => False

end Go.Eng
namespace Go.Proofs.Ytkjnkepdhbpnbaa
open Go Go.Eng Go.Sp
set_option linter.unusedVariables false
set_option linter.unusedSimpArgs false

theorem atI_init {D : List Int} {d : List Int} {y : Int} (h : D = d ++ [y]) {i : Nat} (hi : i < d.length) : atI d i = atI D i := by
  rw [h, atI_cat, if_pos hi]

set_option maxHeartbeats 1000000 in
theorem rbk_lc (x : RH) (a3 : Option Addr) (l3 c3 : Nat) (H0 : HH) (h : refC x H0) (hD : x.D.length ≤ 1048576) (hU : x.U.length ≤ 1048576) : ∃ args', denL args' = denL [x.v (.v (.slice a3 l3 c3))] ∧ LC Try.prog 28 args' H0 (fun z H' => ∃ (x' : RH) (y code : Int) (N' : HH), relB x x' y code ∧ z.den = (AV.tup [x'.v (.v (.slice a3 l3 c3)), .v (.int .i64 y), .v (.int .i64 code)]).den ∧ LeH H' N' ∧ refC x' N') := by
  obtain ⟨b1, b2, n1, o1, n2, o2, S1, S2, rfl, hden, k1, k2⟩ := h
  refine ⟨[x.os (.v (.slice a3 l3 c3)) b1 b2 n1 o1 n2 o2], by simp only [denL, hden], rbk_vc x a3 l3 c3 b1 b2 n1 o1 n2 o2 S1 S2 ?_⟩
  intro m1 m2
  simp only [true_and, and_true]
  refine br_intro (fun hz => ?_) (fun hz => ?_)
  · have hz : x.D = [] := by have := eq_of_beq hz; exact List.length_eq_zero_iff.1 (by omega)
    exact ⟨x, 0, 12, [rI n1 o1 x.D S1, rI n2 o2 x.U S2], ⟨rfl, .inl ⟨hz, hz, rfl, rfl, rfl⟩⟩, tup3_den (hden _), leAt [0, 1] (by decide) ⟨LeB.refl _, LeB.refl _, trivial⟩, b1, b2, n1, o1, n2, o2, S1, S2, rfl, hden, k1, k2⟩
  · have hpos : 0 < x.D.length := by have := beq_eq_false_iff_ne.1 hz; omega
    have hw : IntKind.i64.wrap ((x.D.length : Int) - 1) = ((x.D.length - 1 : Nat) : Int) := by rw [w64 (by omega)]; omega
    obtain ⟨d, y, hd⟩ : ∃ d y, x.D = d ++ [y] := ⟨_, _, (List.dropLast_concat_getLast (List.ne_nil_of_length_pos hpos)).symm⟩
    have hl : x.D.length = d.length + 1 := by rw [hd]; simp
    have hy : atI x.D (x.D.length - 1) = y := by rw [hd, atI_cat]; simp [atI]
    simp only [hw, Int.toNat_natCast, Nat.zero_add, Nat.sub_zero, Nat.add_zero, Nat.zero_mul, hy]
    refine ⟨⟨by omega, by omega⟩, by omega, ⟨by omega, by omega⟩, by omega, fun a' ha n5 => ?_⟩
    have hdl : x.D.length - 1 = d.length := by omega
    have den : ∀ {u : AV} {c2 m : Nat}, u.den = .slice (some ⟨m, 0, none⟩) (x.U.length + 1) c2 → (AV.tup [.agg [.v (.int .i64 x.most), .os 0 a' n1 o1 0 1 (x.D.length - 1) x.c1, u, .v (.slice a3 l3 c3)], .v (.int .i64 y), .v (.int .i64 0)]).den = (AV.tup [(mkR x.most d (y :: x.U) a' none n1 o1 m 0 x.c1 c2).v (.v (.slice a3 l3 c3)), .v (.int .i64 y), .v (.int .i64 0)]).den := fun {u c2 m} hu => by
      refine tup3_den ?_
      rw [← mkR_den]
      simp only [RH.os, mkR, AV.den, denL, hu, hdl, List.length_cons, Nat.zero_mul, Nat.add_zero]
      rw [if_neg (Nat.succ_ne_zero _)]
    have rel : ∀ {c2 m : Nat}, relB x (mkR x.most d (y :: x.U) a' none n1 o1 m 0 x.c1 c2) y 0 := fun {c2 m} => ⟨rfl, .inr ⟨hd, rfl, rfl⟩⟩
    refine ⟨Nat.le_refl _, br_intro (fun hle => br_intro (fun h0 => ?_) (fun h0 => ?_)) (fun hgt => ⟨⟨by omega, by omega⟩, fun n6 n7 h7 => ?_⟩)⟩
    · have hU0 : x.U = [] := List.length_eq_zero_iff.1 (Nat.eq_of_beq_eq_true h0)
      exact ⟨mkR x.most d (y :: x.U) a' none n1 o1 n5 0 x.c1 1, y, 0, [rI n1 o1 d S1, rI n5 0 (y :: x.U) [n5]], rel, den (by rw [hU0]; rfl), leAt [0, 4] (by decide) ⟨LeB.ints (by omega) (fun h => h) (.inl rfl) (fun i hi => atI_init hd hi), by rw [hU0]; exact LeB.one (fun h => h) rfl, trivial⟩, a', none, n1, o1, n5, 0, S1, [n5], rfl, mkR_den, by show d.length ≤ x.c1; omega, by rw [hU0]; exact Nat.le_refl _⟩
    · have : x.U.length ≠ 0 := fun e => by rw [e] at h0; cases h0
      have := Nat.le_of_ble_eq_true hle
      omega
    · refine ⟨mkR x.most d (y :: x.U) a' none n1 o1 n6 0 x.c1 n7, y, 0, [rI n1 o1 d S1, rI n6 0 (y :: x.U) [n6]], rel, den (by rw [Nat.add_comm]; rfl), leAt [0, 5] (by decide) ⟨LeB.ints (by omega) (fun h => h) (.inl rfl) (fun i hi => atI_init hd hi), LeB.rowsI (by rw [List.length_cons]; omega) (fun h => h) (fun i hi => ?_), trivial⟩, a', none, n1, o1, n6, 0, S1, [n6], rfl, mkR_den, by show d.length ≤ x.c1; omega, by show (y :: x.U).length ≤ n7; rw [List.length_cons]; omega⟩
      rw [List.length_cons] at hi
      cases i with
      | zero => rfl
      | succ i =>
        rw [if_neg (by omega), if_pos (by omega)]
        show atI (y :: x.U) (i + 1) = atI x.U (i + 1 - 1)
        rfl

set_option maxHeartbeats 1000000 in
theorem rag_lc (x : RH) (a3 : Option Addr) (l3 c3 : Nat) (H0 : HH) (h : refC x H0) (hD : x.D.length ≤ 1048576) (hU : x.U.length ≤ 1048576) : ∃ args', denL args' = denL [x.v (.v (.slice a3 l3 c3))] ∧ LC Try.prog 29 args' H0 (fun z H' => ∃ (x' : RH) (y code : Int) (N' : HH), relA x x' y code ∧ z.den = (AV.tup [x'.v (.v (.slice a3 l3 c3)), .v (.int .i64 y), .v (.int .i64 code)]).den ∧ LeH H' N' ∧ refC x' N') := by
  obtain ⟨b1, b2, n1, o1, n2, o2, S1, S2, rfl, hden, k1, k2⟩ := h
  refine ⟨[x.os (.v (.slice a3 l3 c3)) b1 b2 n1 o1 n2 o2], by simp only [denL, hden], rag_vc x a3 l3 c3 b1 b2 n1 o1 n2 o2 S1 S2 ?_⟩
  intro m1 m2
  simp only [true_and, and_true]
  refine br_intro (fun hz => ?_) (fun hz => ?_)
  · have hz : x.U = [] := by have := eq_of_beq hz; exact List.length_eq_zero_iff.1 (by omega)
    exact ⟨x, 0, 12, [rI n1 o1 x.D S1, rI n2 o2 x.U S2], ⟨rfl, .inl ⟨hz, hz, rfl, rfl, rfl⟩⟩, tup3_den (hden _), leAt [0, 1] (by decide) ⟨LeB.refl _, LeB.refl _, trivial⟩, b1, b2, n1, o1, n2, o2, S1, S2, rfl, hden, k1, k2⟩
  · have hpos : 0 < x.U.length := by have := beq_eq_false_iff_ne.1 hz; omega
    obtain ⟨y, u, hu⟩ : ∃ y u, x.U = y :: u := by
      cases hU' : x.U with
      | nil => rw [hU'] at hpos; cases hpos
      | cons y u => exact ⟨y, u, rfl⟩
    have hl : x.U.length = u.length + 1 := by rw [hu]; rfl
    have hy : atI x.U 0 = y := by rw [hu]; rfl
    simp only [Nat.zero_add, Nat.sub_zero, Nat.add_zero, hy]
    refine ⟨⟨by omega, by omega⟩, hpos, ⟨by omega, by omega⟩, k2, Nat.le_refl _, fun a' ha => ?_⟩
    have hul : x.U.length - 1 = u.length := by omega
    have den : ∀ {k m c : Nat} {e : Option Addr}, (AV.tup [.agg [.v (.int .i64 x.most), .os k e m 0 0 1 (x.D.length + 1) c, .os 1 a' n2 o2 1 1 (x.U.length - 1) (x.c2 - 1), .v (.slice a3 l3 c3)], .v (.int .i64 y), .v (.int .i64 0)]).den = (AV.tup [(mkR x.most (x.D ++ [y]) u e a' m 0 n2 (o2 + 1) c (x.c2 - 1)).v (.v (.slice a3 l3 c3)), .v (.int .i64 y), .v (.int .i64 0)]).den := fun {k m c e} => by
      refine tup3_den ?_
      rw [← mkR_den]
      simp only [RH.os, mkR, AV.den, denL, hul, List.length_append, List.length_cons, List.length_nil, Nat.zero_mul, Nat.add_zero, Nat.zero_add, Nat.one_mul]
    have rel : ∀ {m c : Nat} {e : Option Addr}, relA x (mkR x.most (x.D ++ [y]) u e a' m 0 n2 (o2 + 1) c (x.c2 - 1)) y 0 := fun {m c e} => ⟨rfl, .inr ⟨hu, rfl, rfl⟩⟩
    have tl : LeB (rI n2 o2 x.U S2) (rI n2 (o2 + 1) u S2) := by
      have t : LeB (rI n2 o2 x.U S2) ⟨n2, .lst (o2 + 1) (x.U.length - 1) [.ints .i64 (atI u)] S2 none, true⟩ := LeB.tail (fun h => h) fun i hi => by rw [hu]; rfl
      rw [hul] at t
      exact t
    have hla : (x.D ++ [y]).length = x.D.length + 1 := by simp
    have cont : ∀ {m c : Nat} {e : Option Addr} {S' : List Nat}, x.D.length + 1 ≤ c → refC (mkR x.most (x.D ++ [y]) u e a' m 0 n2 (o2 + 1) c (x.c2 - 1)) [rI m 0 (x.D ++ [y]) S', rI n2 (o2 + 1) u S2] := fun {m c e S'} hc => ⟨e, a', m, 0, n2, o2 + 1, S', S2, rfl, mkR_den, by show (x.D ++ [y]).length ≤ c; omega, by show u.length ≤ x.c2 - 1; omega⟩
    have col : ∀ i, i < (x.D ++ [y]).length → atI (x.D ++ [y]) i = (if i < x.D.length then if i < 0 then 0 else if i < x.D.length then atI x.D i else 0 else if i < x.D.length + 1 then (match asI IntKind.i64 ((nth [AV.v (Value.int IntKind.i64 y)] ((i - x.D.length) * 1)).getD (AV.v undef)) with | some x => x | none => 0) else 0) := fun i hi => by
      rw [atI_cat]
      by_cases h : i < x.D.length
      · rw [if_pos h, if_pos h, if_neg (Nat.not_lt_zero _), if_pos h]
      · obtain rfl : i = x.D.length := by omega
        rw [if_neg h, if_neg h, if_pos (by omega), Nat.sub_self]
        rfl
    refine ⟨fun n5 => ⟨⟨Nat.le_refl _, ⟨by omega, by omega⟩, fun e1 n7 n8 S h8 he n12 => ⟨Nat.le_refl _, he, ⟨by omega, by omega⟩, fun e2 n14 n15 S' h15 he2 => ?_⟩⟩, fun n6 => ⟨Nat.le_refl _, ⟨by omega, by omega⟩, fun e1 n8 n9 S h8 he => ⟨Nat.le_refl _, he, ⟨by omega, by omega⟩, fun e2 n14 n15 S' h15 he2 => ?_⟩⟩⟩, fun n5 n6 => ⟨Nat.le_refl _, ⟨by omega, by omega⟩, fun e1 n8 n9 S h8 he => ⟨Nat.le_refl _, he, ⟨by omega, by omega⟩, fun e2 n14 n15 S' h15 he2 => ?_⟩⟩⟩
    · exact ⟨_, y, 0, [rI n14 0 (x.D ++ [y]) S', rI n2 (o2 + 1) u S2], rel, den, leAt [5, 1] (by decide) ⟨LeB.ints (by omega) (fun h => h) (.inl rfl) col, tl, trivial⟩, cont h15⟩
    · exact ⟨_, y, 0, [rI n14 0 (x.D ++ [y]) S', rI n2 (o2 + 1) u S2], rel, den, leAt [6, 1] (by decide) ⟨LeB.ints (by omega) (fun h => h) (.inl rfl) col, tl, trivial⟩, cont h15⟩
    · exact ⟨_, y, 0, [rI n14 0 (x.D ++ [y]) S', rI n2 (o2 + 1) u S2], rel, den, leAt [6, 1] (by decide) ⟨LeB.ints (by omega) (fun h => h) (.inl rfl) col, tl, trivial⟩, cont h15⟩

/-- A method over what is in a parcel: what it is called with hangs on what is in it. -/
theorem parcel_args {α : Type} {C : α → HH → Prop} (hown : ∀ x H0, C x H0 → allOwn H0) {P : Program} {f : FuncId} {hd : Handler} (he : Enters P f) (h : ∀ rs args H K, hd rs args H K → ∃ (id n : Nat) (x : α) (S : List Nat), nth H id = some (packB C n x S) ∧
      ∀ H0, C x H0 → ∃ args', denL args' = denL args ∧ LC P f args' H0 (fun z H' => ∃ (x' : α) (N' Nx : HH) (z' : AV), LeH H' (N' ++ Nx) ∧ C x' N' ∧ z'.den = z.den ∧ ∀ S', K (.ret z') (H.set id (packB C n x' S') ++ Nx))) : HOk P f hd := by
  refine HOk.of_at he fun rs args H K hk => ?_
  obtain ⟨id, n, x, S, h1, h3⟩ := h rs args H K hk
  refine ⟨id, packB C n x S, args, fun z H' => ∃ (x' : α) (S' : List Nat) (Nx : HH) (z' : AV), H' = packB C n x' S' :: Nx ∧ z'.den = z.den ∧ K (.ret z') (H.set id (packB C n x' S') ++ Nx), by rw [← nth_eq]; exact h1, rfl, ?_, fun z H' hz => ?_⟩
  · refine LC.of_open he fun w hw => ?_
    obtain ⟨H0, g1, _, _, g4⟩ := To.unpack (Hr := []) hw
    rw [List.append_nil] at g4
    obtain ⟨args', g5, g6⟩ := h3 H0 g1
    refine ⟨H0, args', _, g4, g5, g6, fun r H' w' hr hw' => ?_⟩
    obtain ⟨x', N', Nx, z', e1, e2, e4, e5⟩ := hr
    have t1 := e1.to hw'
    have t2 := To.pack (Hr := Nx) n e2 (hown _ _ e2) t1.hp
    exact ⟨z', _, e4, ⟨x', numsAll N', Nx, z', rfl, rfl, e5 _⟩, t1.trans t2⟩
  · obtain ⟨x', S', Nx, z', e1, e2, e3⟩ := hz
    exact ⟨z', packB C n x' S', Nx, e2, e3, e1 ▸ LeH.refl _⟩

theorem vm1_den {x : RH} {m : AV} {a3 : Option Addr} {l3 c3 : Nat} (h : m.den = .slice a3 l3 c3) : (x.v m).den = (x.v (.v (.slice a3 l3 c3))).den := by
  simp only [RH.v, AV.den, denL, h]
theorem vm_den {x : RH} {m : AV} {a3 : Option Addr} {l3 c3 : Nat} (h : m.den = .slice a3 l3 c3) : denL [x.v (.v (.slice a3 l3 c3))] = denL [x.v m] := by
  simp only [denL, vm1_den h]

theorem rback_ok : HOk Try.prog 28 rbackH := parcel_args (C := refC) refC_own (enters_of (c := body Try.f28) Try.func28 rfl (by kernel_rfl)) fun rs args H K hk => by
  unfold rbackH at hk
  split at hk
  · rename_i id q a1 l1 k1 a2 l2 k2 m hid
    obtain ⟨x, S, a3, l3, c3, h1, hx, hm, ⟨h2, h3⟩, hk⟩ := hk
    rw [← hx]
    refine ⟨id, 0, x, S, h1, fun H0 hc => ?_⟩
    obtain ⟨args', g1, g2⟩ := rbk_lc x a3 l3 c3 H0 hc h2 h3
    refine ⟨args', g1.trans (vm_den hm), g2.mono fun z H' hz => ?_⟩
    obtain ⟨x', y, code, N', q1, q2, q3, q4⟩ := hz
    exact ⟨x', N', [], .tup [x'.v m, .v (.int .i64 y), .v (.int .i64 code)], by rw [List.append_nil]; exact q3, q4, (tup3_den (vm1_den hm)).trans q2.symm, fun S' => by rw [List.append_nil]; exact hk x' y code S' q1⟩
  · exact hk.elim

theorem ragain_ok : HOk Try.prog 29 ragainH := parcel_args (C := refC) refC_own (enters_of (c := body Try.f29) Try.func29 rfl (by kernel_rfl)) fun rs args H K hk => by
  unfold ragainH at hk
  split at hk
  · rename_i id q a1 l1 k1 a2 l2 k2 m hid
    obtain ⟨x, S, a3, l3, c3, h1, hx, hm, ⟨h2, h3⟩, hk⟩ := hk
    rw [← hx]
    refine ⟨id, 0, x, S, h1, fun H0 hc => ?_⟩
    obtain ⟨args', g1, g2⟩ := rag_lc x a3 l3 c3 H0 hc h2 h3
    refine ⟨args', g1.trans (vm_den hm), g2.mono fun z H' hz => ?_⟩
    obtain ⟨x', y, code, N', q1, q2, q3, q4⟩ := hz
    exact ⟨x', N', [], .tup [x'.v m, .v (.int .i64 y), .v (.int .i64 code)], by rw [List.append_nil]; exact q3, q4, (tup3_den (vm1_den hm)).trans q2.symm, fun S' => by rw [List.append_nil]; exact hk x' y code S' q1⟩
  · exact hk.elim

end Go.Proofs.Ytkjnkepdhbpnbaa

namespace Go.Eng
open Go.Sp

abbrev rMr (n o : Nat) (l : List (ByteArray × Int)) (S : List Nat) : Blk := ⟨n, .lst o l.length [.strs (atP1 l), .ints .i64 (atP2 l)] S none, false⟩

/-- Where a name stands. -/
def relF (M : List (ByteArray × Int)) (nm : ByteArray) (i : Int) : Prop := (i = -1 ∧ ∀ q, q < M.length → atP1 M q ≠ nm) ∨ ∃ k : Nat, i = (k : Int) ∧ k < M.length ∧ atP1 M k = nm

def rfindH : Handler := fun _ args H K =>
  match args with
  | [.agg [.v (.int .i64 _), .v (.slice _ _ _), .v (.slice _ _ _), .os i _ n o 0 2 l _], .v (.string nm)] => ∃ (M : List (ByteArray × Int)) (S : List Nat) (w : Bool), nth H i = some ⟨n, .lst o M.length [.strs (atP1 M), .ints .i64 (atP2 M)] S none, w⟩ ∧ l = M.length ∧ M.length ≤ 1048576 ∧ ∀ r, relF M nm r → K (.ret (.v (.int .i64 r))) H
  | _ => False

/-- On the way to a mark. -/
structure RTX where
  x : RH
  S : List Nat
  mv : List Int
  a : Option Addr
  n : Nat
  cap : Nat
  S4 : List Nat

def rtoJ (x0 : RH) : Nat → TT → HH → LI := fun b T H =>
  match b, H, T.get 8 with
  | 0, _ :: bM :: ⟨n2, .cells [q, _, _, m] ty, o2⟩ :: b3 :: _, some (.v (.int _ p)) =>
    .inv RTX (fun x => ((9, .os 4 x.a x.n 0 0 1 x.mv.length x.cap) :: keepT [2, 4, 8] T, [refB x.x x.S, bM, ⟨n2, .cells [q, .v (.slice x.x.a1 x.x.D.length x.x.c1), .v (.slice x.x.a2 x.x.U.length x.x.c2), m] ty, o2⟩, b3, ⟨x.n, .lst 0 x.mv.length [.ints .i64 (atI x.mv)] x.S4 (some (x.cap, 3)), true⟩]))
      (fun x => x.x.most = x0.most ∧ x0.D = x.x.D ++ x.mv.reverse ∧ x.x.U = x.mv.reverse ++ x0.U ∧ (x.mv = [] ∨ p ≤ (x.x.D.length : Int)) ∧ emptyOk x.a x.n x.mv.length x.cap) (fun x => x.x.D.length)
  | 2, _ :: bM :: ⟨n2, .cells [q, _, _, m] ty, o2⟩ :: b3 :: _, some (.v (.int _ p)) =>
    .inv RTX (fun x => ((9, .os 4 x.a x.n 0 0 1 x.mv.length x.cap) :: keepT [2, 4, 8] T, [refB x.x x.S, bM, ⟨n2, .cells [q, .v (.slice x.x.a1 x.x.D.length x.x.c1), .v (.slice x.x.a2 x.x.U.length x.x.c2), m] ty, o2⟩, b3, ⟨x.n, .lst 0 x.mv.length [.ints .i64 (atI x.mv)] x.S4 (some (x.cap, 3)), true⟩]))
      (fun x => x.x.most = x0.most ∧ ((x0.D = x.x.D ++ x.mv.reverse ∧ x.x.U = x.mv.reverse ++ x0.U ∧ p = (x.x.D.length : Int)) ∨ (x.x.D = x0.D ++ x.mv ∧ x0.U = x.mv ++ x.x.U ∧ (x.x.D.length : Int) ≤ p)) ∧ emptyOk x.a x.n x.mv.length x.cap) (fun x => x.x.U.length)
  | _, _, _ => .unroll 0

end Go.Eng
namespace Go.Proofs.Ytkjnkepdhbpnbaa
open Go Go.Eng Go.Sp
set_option linter.unusedVariables false
set_option linter.unusedSimpArgs false

theorem rfd_lc (most : Int) (a1 a2 b3 : Option Addr) (l1 l2 k1 k2 n3 o3 c3 : Nat) (M : List (ByteArray × Int)) (S3 : List Nat) (nm : ByteArray) (hM : M.length ≤ 1048576) : LC Try.prog 40 [.agg [.v (.int .i64 most), .v (.slice a1 l1 k1), .v (.slice a2 l2 k2), .os 0 b3 n3 o3 0 2 M.length c3], .v (.string nm)] [⟨n3, .lst o3 M.length [.strs (atP1 M), .ints .i64 (atP2 M)] S3 none, false⟩] (fun z _ => ∃ r, relF M nm r ∧ z = .v (.int .i64 r)) :=
  rfd_vc most a1 a2 b3 l1 l2 k1 k2 n3 o3 c3 M S3 nm (by
    intro n1
    simp only [true_and, and_true]
    refine ⟨⟨0, ⟨Nat.zero_le _, fun q hq => absurd hq (Nat.not_lt_zero _)⟩, rfl, LeH.refl _⟩, fun i hi => ?_⟩
    obtain ⟨i1, i2⟩ := hi
    simp only [Int.toNat_natCast, Nat.zero_add]
    refine br_intro (fun hlt => ?_) (fun hge => ?_)
    · have hlt : i < M.length := by have := of_decide_eq_true hlt; omega
      refine ⟨⟨by omega, by omega⟩, hlt, br_intro (fun he => ⟨_, .inr ⟨i, rfl, hlt, eqT.1 he⟩, rfl⟩) (fun hne => ⟨i + 1, ⟨hlt, fun q hq => ?_⟩, by omega, by rw [w64 (by omega)]; rfl, LeH.refl _⟩)⟩
      rcases Nat.lt_or_ge q i with h | h
      · exact i2 q h
      · obtain rfl : q = i := by omega
        exact eqF.1 hne
    · have : i = M.length := by have := of_decide_eq_false hge; omega
      exact ⟨-1, .inl ⟨rfl, fun q hq => i2 q (by omega)⟩, rfl⟩)

theorem rfind_ok : HOk Try.prog 40 rfindH := HOk.of_make (enters_of (c := body Try.f40) Try.func40 rfl (by kernel_rfl)) fun rs args H K hk => by
  unfold rfindH at hk
  split at hk
  · rename_i most a1 l1 k1 a2 l2 k2 id b3 n o l c3 nm
    obtain ⟨M, S, w, h1, rfl, h2, hk⟩ := hk
    refine ⟨[⟨n, .lst o M.length [.strs (atP1 M), .ints .i64 (atP2 M)] S none, false⟩], [.agg [.v (.int .i64 most), .v (.slice a1 l1 k1), .v (.slice a2 l2 k2), .os 0 b3 n o 0 2 M.length c3], .v (.string nm)], _, leAt (H := H) [id] (by simp) ?_, fun b hb => by cases List.mem_singleton.1 hb; rfl, rfl, rfd_lc most a1 a2 b3 l1 l2 k1 k2 n o c3 M S nm h2, fun z H' hz => ?_⟩
    · simp only [pickH, h1]
      exact ⟨LeB.lst rfl (Nat.le_refl _) (fun h => (by cases h)) (.inl rfl) (fun _ _ => rfl), trivial⟩
    · obtain ⟨r, hr, rfl⟩ := hz
      exact ⟨_, [], rfl, leAt [] List.nodup_nil trivial, fun b hb => (by cases hb), by rw [List.append_nil]; exact hk r hr⟩
  · cases hk

def tbRT : Tbl := (4294967294, .ext mergeFlag) :: (40, .gen rfindH) :: (28, .gen rbackH) :: (29, .gen ragainH) :: []

theorem tbRT_ok : TblOk Try.prog tbRT := ⟨flag_ok, rfind_ok, rback_ok, ragain_ok, trivial⟩


set_option maxRecDepth 100000 in
theorem rto_vc (x : RH) (S : List Nat) (b3 : Option Addr) (n3 o3 c3 : Nat) (M : List (ByteArray × Int)) (S3 : List Nat) (nm : ByteArray) {R : AV → HH → Prop} (h : (∀ (n1 n2 : Nat),
 n1 = n1 ∧
 ∃ (M_1 : List (ByteArray × Int)),
 ∃ (S_1 : List Nat),
 ∃ (w : Bool),
 some (Blk.mk n3 (Cont.lst o3 M.length [Col.strs (atP1 M), Col.ints IntKind.i64 (atP2 M)] S3 none) false) = some (Blk.mk n3 (Cont.lst o3 M_1.length [Col.strs (atP1 M_1), Col.ints IntKind.i64 (atP2 M_1)] S_1 none) w) ∧
 M.length = M_1.length ∧
 M_1.length ≤ (1048576 : Nat) ∧
 ∀ (r : Int),
 relF M_1 nm r →
 br (decide (r < (0 : Int))) (n1 = n1 ∧ n2 = n2 ∧ n2 = n2 ∧ R (AV.tup [AV.agg [AV.v (Value.int IntKind.i64 x.1), AV.v (Value.slice x.a1 x.D.length x.c1), AV.v (Value.slice x.a2 x.U.length x.c2), AV.os (1 : Nat) b3 n3 o3 (0 : Nat) (2 : Nat) M.length c3], AV.v (Value.slice none (0 : Nat) (0 : Nat)), AV.v (Value.int IntKind.i64 (8 : Int))]) [Blk.mk (0 : Nat) (Cont.res (RH × List Nat) (x, S) (fun (x : RH × List Nat) => x.snd) (packI refC)) true, Blk.mk n3 (Cont.lst o3 M.length [Col.strs (atP1 M), Col.ints IntKind.i64 (atP2 M)] S3 none) false, Blk.mk n1 (Cont.cells [AV.v (Value.int IntKind.i64 x.1), AV.v (Value.slice x.a1 x.D.length x.c1), AV.v (Value.slice x.a2 x.U.length x.c2), AV.os (1 : Nat) b3 n3 o3 (0 : Nat) (2 : Nat) M.length c3] (38 : Nat)) true, Blk.mk n2 (Cont.cells [AV.v (Value.int IntKind.i64 x.1), AV.v (Value.slice x.a1 x.D.length x.c1), AV.v (Value.slice x.a2 x.U.length x.c2), AV.os (1 : Nat) b3 n3 o3 (0 : Nat) (2 : Nat) M.length c3] (38 : Nat)) true])
 (n1 = n1 ∧
 ((0 : Int) ≤ r ∧ r < (↑M.length : Int)) ∧
 n3 = n3 ∧
 o3 = o3 ∧
 (0 : Nat) + r.toNat < M.length ∧
 (∃ (x_1 : RTX), (x_1.x.1 = x.1 ∧ x.D = x_1.x.D ++ x_1.mv.reverse ∧ x_1.x.U = x_1.mv.reverse ++ x.U ∧ (x_1.mv = [] ∨ atP2 M ((0 : Nat) + r.toNat) ≤ (↑x_1.x.D.length : Int)) ∧ emptyOk x_1.a x_1.n x_1.mv.length x_1.cap) ∧ ((AV.v (Value.slice none (0 : Nat) (0 : Nat))).den = (AV.os (4 : Nat) x_1.a x_1.n (0 : Nat) (0 : Nat) (1 : Nat) x_1.mv.length x_1.cap).den ∧ (AV.ptr (2 : Nat) n1 (0 : Nat)).den = (AV.ptr (2 : Nat) n1 (0 : Nat)).den ∧ (AV.ptr (3 : Nat) n2 (0 : Nat)).den = (AV.ptr (3 : Nat) n2 (0 : Nat)).den ∧ (AV.v (Value.int IntKind.i64 (atP2 M ((0 : Nat) + r.toNat)))).den = (AV.v (Value.int IntKind.i64 (atP2 M ((0 : Nat) + r.toNat)))).den ∧ True) ∧ LeH [Blk.mk (0 : Nat) (Cont.res (RH × List Nat) (x, S) (fun (x : RH × List Nat) => x.snd) (packI refC)) true, Blk.mk n3 (Cont.lst o3 M.length [Col.strs (atP1 M), Col.ints IntKind.i64 (atP2 M)] S3 none) false, Blk.mk n1 (Cont.cells [AV.v (Value.int IntKind.i64 x.1), AV.v (Value.slice x.a1 x.D.length x.c1), AV.v (Value.slice x.a2 x.U.length x.c2), AV.os (1 : Nat) b3 n3 o3 (0 : Nat) (2 : Nat) M.length c3] (38 : Nat)) true, Blk.mk n2 (Cont.cells [AV.v (Value.int IntKind.i64 (0 : Int)), AV.v (Value.slice none (0 : Nat) (0 : Nat)), AV.v (Value.slice none (0 : Nat) (0 : Nat)), AV.v (Value.slice none (0 : Nat) (0 : Nat))] (38 : Nat)) true] [Blk.mk (0 : Nat) (Cont.res (RH × List Nat) (x_1.x, x_1.S) (fun (x : RH × List Nat) => x.snd) (packI refC)) true, Blk.mk n3 (Cont.lst o3 M.length [Col.strs (atP1 M), Col.ints IntKind.i64 (atP2 M)] S3 none) false, Blk.mk n1 (Cont.cells [AV.v (Value.int IntKind.i64 x.1), AV.v (Value.slice x_1.x.a1 x_1.x.D.length x_1.x.c1), AV.v (Value.slice x_1.x.a2 x_1.x.U.length x_1.x.c2), AV.os (1 : Nat) b3 n3 o3 (0 : Nat) (2 : Nat) M.length c3] (38 : Nat)) true, Blk.mk n2 (Cont.cells [AV.v (Value.int IntKind.i64 (0 : Int)), AV.v (Value.slice none (0 : Nat) (0 : Nat)), AV.v (Value.slice none (0 : Nat) (0 : Nat)), AV.v (Value.slice none (0 : Nat) (0 : Nat))] (38 : Nat)) true, Blk.mk x_1.n (Cont.lst (0 : Nat) x_1.mv.length [Col.ints IntKind.i64 (atI x_1.mv)] x_1.S4 (some (x_1.cap, (3 : TypeId)))) true]) ∧
 ∀ (x_1 : RTX),
 x_1.x.1 = x.1 ∧ x.D = x_1.x.D ++ x_1.mv.reverse ∧ x_1.x.U = x_1.mv.reverse ++ x.U ∧ (x_1.mv = [] ∨ atP2 M ((0 : Nat) + r.toNat) ≤ (↑x_1.x.D.length : Int)) ∧ emptyOk x_1.a x_1.n x_1.mv.length x_1.cap →
 n1 = n1 ∧
 br (decide ((↑x_1.x.D.length : Int) > atP2 M ((0 : Nat) + r.toNat)))
 (n1 = n1 ∧
 ∃ (x_2 : RH),
 ∃ (S : List Nat),
 ∃ (a3 : Option Addr),
 ∃ (l3 : Nat),
 ∃ (c3_1 : Nat),
 some (Blk.mk (0 : Nat) (Cont.res (RH × List Nat) (x_1.x, x_1.S) (fun (x : RH × List Nat) => x.snd) (packI refC)) true) = some (Blk.mk (0 : Nat) (Cont.res (RH × List Nat) (x_2, S) (fun (x : RH × List Nat) => x.snd) (packI refC)) true) ∧
 AV.agg [AV.v (Value.int IntKind.i64 x_2.1), AV.v (Value.slice x_2.a1 x_2.D.length x_2.c1), AV.v (Value.slice x_2.a2 x_2.U.length x_2.c2), AV.os (1 : Nat) b3 n3 o3 (0 : Nat) (2 : Nat) M.length c3] = AV.agg [AV.v (Value.int IntKind.i64 x.1), AV.v (Value.slice x_1.x.a1 x_1.x.D.length x_1.x.c1), AV.v (Value.slice x_1.x.a2 x_1.x.U.length x_1.x.c2), AV.os (1 : Nat) b3 n3 o3 (0 : Nat) (2 : Nat) M.length c3] ∧
 (AV.os (1 : Nat) b3 n3 o3 (0 : Nat) (2 : Nat) M.length c3).den = Value.slice a3 l3 c3_1 ∧
 (x_2.D.length ≤ (1048576 : Nat) ∧ x_2.U.length ≤ (1048576 : Nat)) ∧
 ∀ (x' : RH) (y code : Int) (S' : List Nat),
 relB x_2 x' y code →
 ∀ (n20 : Nat),
 n20 = n20 ∧
 n20 = n20 ∧
 n1 = n1 ∧
 ∀ (n21 : Nat),
 n21 = n21 ∧
 x_1.n = x_1.n ∧
 (0 : Nat) = (0 : Nat) ∧
 (0 : Nat) = (0 : Nat) ∧
 x_1.mv.length ≤ x_1.mv.length ∧
 x_1.cap = x_1.cap ∧
 (x_1.mv.length = (0 : Nat) → x_1.cap = (0 : Nat) ∨ x_1.a = some (Addr.mk x_1.n (0 : Nat) none)) ∧
 (x_1.mv.length + (1 : Nat) ≤ (9223372036854775807 : Nat) ∧ (x_1.mv.length + (1 : Nat) + (x_1.mv.length + (1 : Nat)) / (4 : Nat) + (192 : Nat)) * (8 : Nat) ≤ (281474976710656 : Nat)) ∧
 ∀ (a' : Option Addr) (n23 n24 : Nat) (S'_1 : List Nat),
 x_1.mv.length + (1 : Nat) ≤ n24 →
 emptyOk a' n23 (x_1.mv.length + (1 : Nat)) n24 →
 ∃ (x'_1 : RTX),
 (x'_1.x.1 = x.1 ∧ x.D = x'_1.x.D ++ x'_1.mv.reverse ∧ x'_1.x.U = x'_1.mv.reverse ++ x.U ∧ (x'_1.mv = [] ∨ atP2 M ((0 : Nat) + r.toNat) ≤ (↑x'_1.x.D.length : Int)) ∧ emptyOk x'_1.a x'_1.n x'_1.mv.length x'_1.cap) ∧
 x'_1.x.D.length < x_1.x.D.length ∧
 ((AV.os (4 : Nat) a' n23 (0 : Nat) (0 : Nat) (1 : Nat) (x_1.mv.length + (1 : Nat)) n24).den = (AV.os (4 : Nat) x'_1.a x'_1.n (0 : Nat) (0 : Nat) (1 : Nat) x'_1.mv.length x'_1.cap).den ∧ (AV.ptr (2 : Nat) n1 (0 : Nat)).den = (AV.ptr (2 : Nat) n1 (0 : Nat)).den ∧ (AV.ptr (3 : Nat) n2 (0 : Nat)).den = (AV.ptr (3 : Nat) n2 (0 : Nat)).den ∧ (AV.v (Value.int IntKind.i64 (atP2 M ((0 : Nat) + r.toNat)))).den = (AV.v (Value.int IntKind.i64 (atP2 M ((0 : Nat) + r.toNat)))).den ∧ True) ∧
 LeH
 [Blk.mk (0 : Nat) (Cont.res (RH × List Nat) (x', S') (fun (x : RH × List Nat) => x.snd) (packI refC)) true, Blk.mk n3 (Cont.lst o3 M.length [Col.strs (atP1 M), Col.ints IntKind.i64 (atP2 M)] S3 none) false, Blk.mk n1 (Cont.cells [AV.v (Value.int IntKind.i64 x'.1), AV.v (Value.slice x'.a1 x'.D.length x'.c1), AV.v (Value.slice x'.a2 x'.U.length x'.c2), AV.os (1 : Nat) b3 n3 o3 (0 : Nat) (2 : Nat) M.length c3] (38 : Nat)) true, Blk.mk n2 (Cont.cells [AV.v (Value.int IntKind.i64 (0 : Int)), AV.v (Value.slice none (0 : Nat) (0 : Nat)), AV.v (Value.slice none (0 : Nat) (0 : Nat)), AV.v (Value.slice none (0 : Nat) (0 : Nat))] (38 : Nat)) true,
 Blk.mk n23
 (Cont.lst (0 : Nat) (x_1.mv.length + (1 : Nat))
 [Col.ints IntKind.i64 fun (i : Nat) =>
 if i < x_1.mv.length then atI x_1.mv i
 else
 if i < x_1.mv.length + (1 : Nat) then
 match asI IntKind.i64 ((nth [AV.v (Value.int IntKind.i64 y)] (((0 : Nat) + (i - x_1.mv.length)) * (1 : Nat) + nat_lit 0)).getD (AV.v undef)) with
 | some x => x
 | none => (0 : Int)
 else (0 : Int)]
 S'_1 (some (n24, (3 : Nat))))
 true,
 Blk.mk n20 (Cont.cells [AV.v (Value.int IntKind.i64 x'.1), AV.v (Value.slice x'.a1 x'.D.length x'.c1), AV.v (Value.slice x'.a2 x'.U.length x'.c2), AV.os (1 : Nat) b3 n3 o3 (0 : Nat) (2 : Nat) M.length c3] (38 : Nat)) true, Blk.mk n21 (Cont.cells [AV.v (Value.int IntKind.i64 y)] (3 : Nat)) true]
 [Blk.mk (0 : Nat) (Cont.res (RH × List Nat) (x'_1.x, x'_1.S) (fun (x : RH × List Nat) => x.snd) (packI refC)) true, Blk.mk n3 (Cont.lst o3 M.length [Col.strs (atP1 M), Col.ints IntKind.i64 (atP2 M)] S3 none) false, Blk.mk n1 (Cont.cells [AV.v (Value.int IntKind.i64 x.1), AV.v (Value.slice x'_1.x.a1 x'_1.x.D.length x'_1.x.c1), AV.v (Value.slice x'_1.x.a2 x'_1.x.U.length x'_1.x.c2), AV.os (1 : Nat) b3 n3 o3 (0 : Nat) (2 : Nat) M.length c3] (38 : Nat)) true, Blk.mk n2 (Cont.cells [AV.v (Value.int IntKind.i64 (0 : Int)), AV.v (Value.slice none (0 : Nat) (0 : Nat)), AV.v (Value.slice none (0 : Nat) (0 : Nat)), AV.v (Value.slice none (0 : Nat) (0 : Nat))] (38 : Nat)) true, Blk.mk x'_1.n (Cont.lst (0 : Nat) x'_1.mv.length [Col.ints IntKind.i64 (atI x'_1.mv)] x'_1.S4 (some (x'_1.cap, (3 : TypeId)))) true])
 ((∃ (x_2 : RTX), (x_2.x.1 = x.1 ∧ (x.D = x_2.x.D ++ x_2.mv.reverse ∧ x_2.x.U = x_2.mv.reverse ++ x.U ∧ atP2 M ((0 : Nat) + r.toNat) = (↑x_2.x.D.length : Int) ∨ x_2.x.D = x.D ++ x_2.mv ∧ x.U = x_2.mv ++ x_2.x.U ∧ (↑x_2.x.D.length : Int) ≤ atP2 M ((0 : Nat) + r.toNat)) ∧ emptyOk x_2.a x_2.n x_2.mv.length x_2.cap) ∧ ((AV.os (4 : Nat) x_1.a x_1.n (0 : Nat) (0 : Nat) (1 : Nat) x_1.mv.length x_1.cap).den = (AV.os (4 : Nat) x_2.a x_2.n (0 : Nat) (0 : Nat) (1 : Nat) x_2.mv.length x_2.cap).den ∧ (AV.ptr (2 : Nat) n1 (0 : Nat)).den = (AV.ptr (2 : Nat) n1 (0 : Nat)).den ∧ (AV.ptr (3 : Nat) n2 (0 : Nat)).den = (AV.ptr (3 : Nat) n2 (0 : Nat)).den ∧ (AV.v (Value.int IntKind.i64 (atP2 M ((0 : Nat) + r.toNat)))).den = (AV.v (Value.int IntKind.i64 (atP2 M ((0 : Nat) + r.toNat)))).den ∧ True) ∧ LeH [Blk.mk (0 : Nat) (Cont.res (RH × List Nat) (x_1.x, x_1.S) (fun (x : RH × List Nat) => x.snd) (packI refC)) true, Blk.mk n3 (Cont.lst o3 M.length [Col.strs (atP1 M), Col.ints IntKind.i64 (atP2 M)] S3 none) false, Blk.mk n1 (Cont.cells [AV.v (Value.int IntKind.i64 x.1), AV.v (Value.slice x_1.x.a1 x_1.x.D.length x_1.x.c1), AV.v (Value.slice x_1.x.a2 x_1.x.U.length x_1.x.c2), AV.os (1 : Nat) b3 n3 o3 (0 : Nat) (2 : Nat) M.length c3] (38 : Nat)) true, Blk.mk n2 (Cont.cells [AV.v (Value.int IntKind.i64 (0 : Int)), AV.v (Value.slice none (0 : Nat) (0 : Nat)), AV.v (Value.slice none (0 : Nat) (0 : Nat)), AV.v (Value.slice none (0 : Nat) (0 : Nat))] (38 : Nat)) true, Blk.mk x_1.n (Cont.lst (0 : Nat) x_1.mv.length [Col.ints IntKind.i64 (atI x_1.mv)] x_1.S4 (some (x_1.cap, (3 : TypeId)))) true] [Blk.mk (0 : Nat) (Cont.res (RH × List Nat) (x_2.x, x_2.S) (fun (x : RH × List Nat) => x.snd) (packI refC)) true, Blk.mk n3 (Cont.lst o3 M.length [Col.strs (atP1 M), Col.ints IntKind.i64 (atP2 M)] S3 none) false, Blk.mk n1 (Cont.cells [AV.v (Value.int IntKind.i64 x.1), AV.v (Value.slice x_2.x.a1 x_2.x.D.length x_2.x.c1), AV.v (Value.slice x_2.x.a2 x_2.x.U.length x_2.x.c2), AV.os (1 : Nat) b3 n3 o3 (0 : Nat) (2 : Nat) M.length c3] (38 : Nat)) true, Blk.mk n2 (Cont.cells [AV.v (Value.int IntKind.i64 (0 : Int)), AV.v (Value.slice none (0 : Nat) (0 : Nat)), AV.v (Value.slice none (0 : Nat) (0 : Nat)), AV.v (Value.slice none (0 : Nat) (0 : Nat))] (38 : Nat)) true, Blk.mk x_2.n (Cont.lst (0 : Nat) x_2.mv.length [Col.ints IntKind.i64 (atI x_2.mv)] x_2.S4 (some (x_2.cap, (3 : TypeId)))) true]) ∧
 ∀ (x_2 : RTX),
 x_2.x.1 = x.1 ∧ (x.D = x_2.x.D ++ x_2.mv.reverse ∧ x_2.x.U = x_2.mv.reverse ++ x.U ∧ atP2 M ((0 : Nat) + r.toNat) = (↑x_2.x.D.length : Int) ∨ x_2.x.D = x.D ++ x_2.mv ∧ x.U = x_2.mv ++ x_2.x.U ∧ (↑x_2.x.D.length : Int) ≤ atP2 M ((0 : Nat) + r.toNat)) ∧ emptyOk x_2.a x_2.n x_2.mv.length x_2.cap →
 n1 = n1 ∧
 br (decide ((↑x_2.x.D.length : Int) < atP2 M ((0 : Nat) + r.toNat)))
 (n1 = n1 ∧
 ∃ (x_3 : RH),
 ∃ (S : List Nat),
 ∃ (a3 : Option Addr),
 ∃ (l3 : Nat),
 ∃ (c3_1 : Nat),
 some (Blk.mk (0 : Nat) (Cont.res (RH × List Nat) (x_2.x, x_2.S) (fun (x : RH × List Nat) => x.snd) (packI refC)) true) = some (Blk.mk (0 : Nat) (Cont.res (RH × List Nat) (x_3, S) (fun (x : RH × List Nat) => x.snd) (packI refC)) true) ∧
 AV.agg [AV.v (Value.int IntKind.i64 x_3.1), AV.v (Value.slice x_3.a1 x_3.D.length x_3.c1), AV.v (Value.slice x_3.a2 x_3.U.length x_3.c2), AV.os (1 : Nat) b3 n3 o3 (0 : Nat) (2 : Nat) M.length c3] = AV.agg [AV.v (Value.int IntKind.i64 x.1), AV.v (Value.slice x_2.x.a1 x_2.x.D.length x_2.x.c1), AV.v (Value.slice x_2.x.a2 x_2.x.U.length x_2.x.c2), AV.os (1 : Nat) b3 n3 o3 (0 : Nat) (2 : Nat) M.length c3] ∧
 (AV.os (1 : Nat) b3 n3 o3 (0 : Nat) (2 : Nat) M.length c3).den = Value.slice a3 l3 c3_1 ∧
 (x_3.D.length ≤ (1048576 : Nat) ∧ x_3.U.length ≤ (1048576 : Nat)) ∧
 ∀ (x' : RH) (y code : Int) (S' : List Nat),
 relA x_3 x' y code →
 ∀ (n22 : Nat),
 n22 = n22 ∧
 n22 = n22 ∧
 n1 = n1 ∧
 ∀ (n23 : Nat),
 n23 = n23 ∧
 x_2.n = x_2.n ∧
 (0 : Nat) = (0 : Nat) ∧
 (0 : Nat) = (0 : Nat) ∧
 x_2.mv.length ≤ x_2.mv.length ∧
 x_2.cap = x_2.cap ∧
 (x_2.mv.length = (0 : Nat) → x_2.cap = (0 : Nat) ∨ x_2.a = some (Addr.mk x_2.n (0 : Nat) none)) ∧
 (x_2.mv.length + (1 : Nat) ≤ (9223372036854775807 : Nat) ∧ (x_2.mv.length + (1 : Nat) + (x_2.mv.length + (1 : Nat)) / (4 : Nat) + (192 : Nat)) * (8 : Nat) ≤ (281474976710656 : Nat)) ∧
 ∀ (a' : Option Addr) (n25 n26 : Nat) (S'_1 : List Nat),
 x_2.mv.length + (1 : Nat) ≤ n26 →
 emptyOk a' n25 (x_2.mv.length + (1 : Nat)) n26 →
 ∃ (x'_1 : RTX),
 (x'_1.x.1 = x.1 ∧ (x.D = x'_1.x.D ++ x'_1.mv.reverse ∧ x'_1.x.U = x'_1.mv.reverse ++ x.U ∧ atP2 M ((0 : Nat) + r.toNat) = (↑x'_1.x.D.length : Int) ∨ x'_1.x.D = x.D ++ x'_1.mv ∧ x.U = x'_1.mv ++ x'_1.x.U ∧ (↑x'_1.x.D.length : Int) ≤ atP2 M ((0 : Nat) + r.toNat)) ∧ emptyOk x'_1.a x'_1.n x'_1.mv.length x'_1.cap) ∧
 x'_1.x.U.length < x_2.x.U.length ∧
 ((AV.os (4 : Nat) a' n25 (0 : Nat) (0 : Nat) (1 : Nat) (x_2.mv.length + (1 : Nat)) n26).den = (AV.os (4 : Nat) x'_1.a x'_1.n (0 : Nat) (0 : Nat) (1 : Nat) x'_1.mv.length x'_1.cap).den ∧ (AV.ptr (2 : Nat) n1 (0 : Nat)).den = (AV.ptr (2 : Nat) n1 (0 : Nat)).den ∧ (AV.ptr (3 : Nat) n2 (0 : Nat)).den = (AV.ptr (3 : Nat) n2 (0 : Nat)).den ∧ (AV.v (Value.int IntKind.i64 (atP2 M ((0 : Nat) + r.toNat)))).den = (AV.v (Value.int IntKind.i64 (atP2 M ((0 : Nat) + r.toNat)))).den ∧ True) ∧
 LeH
 [Blk.mk (0 : Nat) (Cont.res (RH × List Nat) (x', S') (fun (x : RH × List Nat) => x.snd) (packI refC)) true, Blk.mk n3 (Cont.lst o3 M.length [Col.strs (atP1 M), Col.ints IntKind.i64 (atP2 M)] S3 none) false, Blk.mk n1 (Cont.cells [AV.v (Value.int IntKind.i64 x'.1), AV.v (Value.slice x'.a1 x'.D.length x'.c1), AV.v (Value.slice x'.a2 x'.U.length x'.c2), AV.os (1 : Nat) b3 n3 o3 (0 : Nat) (2 : Nat) M.length c3] (38 : Nat)) true, Blk.mk n2 (Cont.cells [AV.v (Value.int IntKind.i64 (0 : Int)), AV.v (Value.slice none (0 : Nat) (0 : Nat)), AV.v (Value.slice none (0 : Nat) (0 : Nat)), AV.v (Value.slice none (0 : Nat) (0 : Nat))] (38 : Nat)) true,
 Blk.mk n25
 (Cont.lst (0 : Nat) (x_2.mv.length + (1 : Nat))
 [Col.ints IntKind.i64 fun (i : Nat) =>
 if i < x_2.mv.length then atI x_2.mv i
 else
 if i < x_2.mv.length + (1 : Nat) then
 match asI IntKind.i64 ((nth [AV.v (Value.int IntKind.i64 y)] (((0 : Nat) + (i - x_2.mv.length)) * (1 : Nat) + nat_lit 0)).getD (AV.v undef)) with
 | some x => x
 | none => (0 : Int)
 else (0 : Int)]
 S'_1 (some (n26, (3 : Nat))))
 true,
 Blk.mk n22 (Cont.cells [AV.v (Value.int IntKind.i64 x'.1), AV.v (Value.slice x'.a1 x'.D.length x'.c1), AV.v (Value.slice x'.a2 x'.U.length x'.c2), AV.os (1 : Nat) b3 n3 o3 (0 : Nat) (2 : Nat) M.length c3] (38 : Nat)) true, Blk.mk n23 (Cont.cells [AV.v (Value.int IntKind.i64 y)] (3 : Nat)) true]
 [Blk.mk (0 : Nat) (Cont.res (RH × List Nat) (x'_1.x, x'_1.S) (fun (x : RH × List Nat) => x.snd) (packI refC)) true, Blk.mk n3 (Cont.lst o3 M.length [Col.strs (atP1 M), Col.ints IntKind.i64 (atP2 M)] S3 none) false, Blk.mk n1 (Cont.cells [AV.v (Value.int IntKind.i64 x.1), AV.v (Value.slice x'_1.x.a1 x'_1.x.D.length x'_1.x.c1), AV.v (Value.slice x'_1.x.a2 x'_1.x.U.length x'_1.x.c2), AV.os (1 : Nat) b3 n3 o3 (0 : Nat) (2 : Nat) M.length c3] (38 : Nat)) true, Blk.mk n2 (Cont.cells [AV.v (Value.int IntKind.i64 (0 : Int)), AV.v (Value.slice none (0 : Nat) (0 : Nat)), AV.v (Value.slice none (0 : Nat) (0 : Nat)), AV.v (Value.slice none (0 : Nat) (0 : Nat))] (38 : Nat)) true, Blk.mk x'_1.n (Cont.lst (0 : Nat) x'_1.mv.length [Col.ints IntKind.i64 (atI x'_1.mv)] x'_1.S4 (some (x'_1.cap, (3 : TypeId)))) true])
 (n1 = n1 ∧ n2 = n2 ∧ n2 = n2 ∧ R (AV.tup [AV.agg [AV.v (Value.int IntKind.i64 x.1), AV.v (Value.slice x_2.x.a1 x_2.x.D.length x_2.x.c1), AV.v (Value.slice x_2.x.a2 x_2.x.U.length x_2.x.c2), AV.os (1 : Nat) b3 n3 o3 (0 : Nat) (2 : Nat) M.length c3], AV.os (4 : Nat) x_2.a x_2.n (0 : Nat) (0 : Nat) (1 : Nat) x_2.mv.length x_2.cap, AV.v (Value.int IntKind.i64 (0 : Int))]) [Blk.mk (0 : Nat) (Cont.res (RH × List Nat) (x_2.x, x_2.S) (fun (x : RH × List Nat) => x.snd) (packI refC)) true, Blk.mk n3 (Cont.lst o3 M.length [Col.strs (atP1 M), Col.ints IntKind.i64 (atP2 M)] S3 none) false, Blk.mk n1 (Cont.cells [AV.v (Value.int IntKind.i64 x.1), AV.v (Value.slice x_2.x.a1 x_2.x.D.length x_2.x.c1), AV.v (Value.slice x_2.x.a2 x_2.x.U.length x_2.x.c2), AV.os (1 : Nat) b3 n3 o3 (0 : Nat) (2 : Nat) M.length c3] (38 : Nat)) true, Blk.mk n2 (Cont.cells [AV.v (Value.int IntKind.i64 x.1), AV.v (Value.slice x_2.x.a1 x_2.x.D.length x_2.x.c1), AV.v (Value.slice x_2.x.a2 x_2.x.U.length x_2.x.c2), AV.os (1 : Nat) b3 n3 o3 (0 : Nat) (2 : Nat) M.length c3] (38 : Nat)) true, Blk.mk x_2.n (Cont.lst (0 : Nat) x_2.mv.length [Col.ints IntKind.i64 (atI x_2.mv)] x_2.S4 (some (x_2.cap, (3 : TypeId)))) true]))))) : LC Try.prog 31 [x.v (.os 1 b3 n3 o3 0 2 M.length c3), .v (.string nm)] [refB x S, rMr n3 o3 M S3] R :=
  lc_of_exec (tbl := tbRT) tab_ok tbRT_ok mixed ((rtoJ x)) 2 _ Try.func31 rfl Try.ntmps31 (by decide) (by kernel_rfl) (Nat.le_of_ble_eq_true rfl) (@Eq.mpr (execN tab tbRT ((rtoJ x)) 2 Try.f31.ntmps [] none 0 (body Try.f31) (argsT [x.v (.os 1 b3 n3 o3 0 2 M.length c3), .v (.string nm)] 0) [refB x S, rMr n3 o3 M S3] (post Try.f31 tab (retK R))) _ (by kernel_rfl) h)


end Go.Proofs.Ytkjnkepdhbpnbaa

namespace Go.Eng
open Go.Sp

/-- A call that knows one block of one's own and reads others, where all that it leaves known is one's own. -/
theorem Ext.drop {b b' : Blk} {R N : HH} {w w' : World} (hR : ∀ y ∈ R, y.own = false) (hN : allOwn (b' :: N)) (e : Ext (b :: R) (b' :: N) w w') : Ext [b] (b' :: N) w w' := by
  have own : ∀ k, k ∈ ownNums (b :: R) → k ∈ ownNums [b] := fun k hk => by
    obtain ⟨i, x, hi, ho, hx⟩ := mem_ownNums hk
    cases i with
    | zero => simp at hi; subst hi; exact ownNums_mem (H := [b]) (i := 0) ho hx rfl
    | succ i =>
      simp only [List.getElem?_cons_succ] at hi
      rw [hR x (List.mem_of_getElem? hi)] at ho; cases ho
  refine ⟨e.hp, ⟨e.fr.os, e.fr.tape, e.fr.output, e.fr.size, fun k hk hf => e.fr.block k hk fun hm => hf (own k hm), e.fr.dr⟩, fun i d hi k hk => ?_⟩
  rcases e.src i d hi k hk with ⟨m, y, hm, hy, ho⟩ | h
  · cases m with
    | zero => simp at hm; subst hm; exact .inl ⟨0, b, rfl, hy, ho⟩
    | succ m =>
      simp only [List.getElem?_cons_succ] at hm
      have := ho (hN d (List.mem_of_getElem? hi))
      rw [hR y (List.mem_of_getElem? hm)] at this; cases this
  · exact .inr h

theorem HOk.of_at_r {P : Program} {f : FuncId} {hd : Handler} (he : Enters P f) (h : ∀ rs args H K, hd rs args H K → ∃ (id : Nat) (b : Blk) (R : HH) (args' : List AV) (Q : AV → HH → Prop), H[id]? = some b ∧ LeH H (b :: R) ∧ (∀ y ∈ R, y.own = false) ∧ denL args' = denL args ∧ LC P f args' (b :: R) Q ∧ ∀ z H', Q z H' → ∃ z' b' N, z'.den = z.den ∧ K (.ret z') (H.set id b' ++ N) ∧ LeH H' (b' :: N) ∧ allOwn (b' :: N)) : HOk P f hd := by
  refine ⟨he, fun rs _ args H K w hw hk => ?_⟩
  obtain ⟨id, b, R, args', Q, hb, hle, hR, ha, hlc, hx⟩ := h rs args H K hk
  rw [← ha]
  refine (hlc.calls w (hle.holds w hw)).mono fun e w' hq => ?_
  obtain ⟨r, H', rfl, hr, hext⟩ := hq
  obtain ⟨z', b', N, h1, h2, h3, h4⟩ := hx r H' hr
  exact ⟨z', H.set id b' ++ N, by rw [h1], h2, Ext.at hw hb (Ext.drop hR h4 (hext.le h3))⟩

/-- What going to a place makes of it. -/
def relT (x x' : RH) (mv : List Int) (p : Int) : Prop := x'.most = x.most ∧ ((x.D = x'.D ++ mv.reverse ∧ x'.U = mv.reverse ++ x.U ∧ p = (x'.D.length : Int)) ∨ (x'.D = x.D ++ mv ∧ x.U = mv ++ x'.U ∧ p = (x'.D.length : Int)))

/-- .. to a mark. -/
def relTo (M : List (ByteArray × Int)) (nm : ByteArray) (x x' : RH) (mv : List Int) (code : Int) : Prop :=
  ((∀ q, q < M.length → atP1 M q ≠ nm) ∧ x' = x ∧ mv = [] ∧ code = 8) ∨ (∃ k, k < M.length ∧ atP1 M k = nm ∧ relT x x' mv (atP2 M k) ∧ code = 0)

/-- All marks are at places that there are. -/
def inM (M : List (ByteArray × Int)) (x : RH) : Prop := ∀ k, k < M.length → 0 ≤ atP2 M k ∧ atP2 M k ≤ ((x.D.length + x.U.length : Nat) : Int)

theorem atI_last (l : List Int) (y : Int) {j : Nat} (h : j < l.length + 1) : (if j < l.length then atI l j else if j < l.length + 1 then (match asI IntKind.i64 ((nth [AV.v (Value.int IntKind.i64 y)] ((j - l.length) * 1 + 0)).getD (AV.v undef)) with | some x => x | none => 0) else 0) = atI (l ++ [y]) j := by
  rw [atI_cat]
  split
  · rfl
  · obtain rfl : j = l.length := by omega
    rw [Nat.sub_self]
    rfl

/-- To a mark; the marks are read. -/
def rtoH : Handler := fun _ args H K =>
  match lastR H 0 none, args with
  | some id, [.agg [.v (.int .i64 q), .v (.slice a1 l1 k1), .v (.slice a2 l2 k2), .os i b3 n3 o3 0 2 l3 c3], .v (.string nm)] => ∃ (x : RH) (S : List Nat) (M : List (ByteArray × Int)) (S3 : List Nat) (w : Bool), nth H id = some (refB x S) ∧ x.v (.os i b3 n3 o3 0 2 l3 c3) = .agg [.v (.int .i64 q), .v (.slice a1 l1 k1), .v (.slice a2 l2 k2), .os i b3 n3 o3 0 2 l3 c3] ∧ nth H i = some ⟨n3, .lst o3 M.length [.strs (atP1 M), .ints .i64 (atP2 M)] S3 none, w⟩ ∧ l3 = M.length ∧ id ≠ i ∧ (M.length ≤ 1048576 ∧ x.D.length + x.U.length ≤ 1048576 ∧ inM M x) ∧
      ∀ (x' : RH) (mv : List Int) (code : Int) (S' : List Nat) (a : Option Addr) (n cap : Nat) (S4 : List Nat), relTo M nm x x' mv code → K (.ret (.tup [x'.v (.os i b3 n3 o3 0 2 l3 c3), .os H.length a n 0 0 1 mv.length cap, .v (.int .i64 code)])) (H.set id (refB x' S') ++ [lI n mv S4 true])
  | _, _ => False

end Go.Eng
namespace Go.Proofs.Ytkjnkepdhbpnbaa
open Go Go.Eng Go.Sp
set_option linter.unusedVariables false
set_option linter.unusedSimpArgs false

set_option maxHeartbeats 2000000 in
theorem rto_lc (x : RH) (S : List Nat) (b3 : Option Addr) (n3 o3 c3 : Nat) (M : List (ByteArray × Int)) (S3 : List Nat) (nm : ByteArray) (hM : M.length ≤ 1048576) (hD : x.D.length + x.U.length ≤ 1048576) (hin : inM M x) :
    LC Try.prog 31 [x.v (.os 1 b3 n3 o3 0 2 M.length c3), .v (.string nm)] [refB x S, rMr n3 o3 M S3] (fun z H' => ∃ (x' : RH) (S' : List Nat) (mv : List Int) (a : Option Addr) (n cap : Nat) (S4 : List Nat) (code : Int), relTo M nm x x' mv code ∧ z.den = (AV.tup [x'.v (.os 1 b3 n3 o3 0 2 M.length c3), .os 0 a n 0 0 1 mv.length cap, .v (.int .i64 code)]).den ∧ LeH H' [refB x' S', lI n mv S4 true]) :=
  rto_vc x S b3 n3 o3 c3 M S3 nm (by
    intro m1 m2
    repeat refine And.intro rfl ?_
    refine ⟨M, S3, false, rfl, rfl, hM, fun r hr => ?_⟩
    repeat refine And.intro rfl ?_
    refine br_intro (fun hneg => ?_) (fun hpos => ?_)
    · have hneg := of_decide_eq_true hneg
      rcases hr with ⟨h1, h2⟩ | ⟨k, h1, _⟩
      · repeat refine And.intro rfl ?_
        refine ⟨x, S, [], none, 0, 0, [], 8, .inl ⟨h2, rfl, rfl, rfl⟩, rfl, ?_⟩
        exact LeH.trans (H1 := [refB x S]) (leAt [0] (by decide) ⟨LeB.refl _, trivial⟩) (LeH.more (b := lI 0 [] [] true) rfl fun w => lst_nil (.inl rfl))
      · omega
    obtain ⟨k, rfl, hk, hnm⟩ : ∃ k : Nat, r = (k : Int) ∧ k < M.length ∧ atP1 M k = nm := by
      have hpos := of_decide_eq_false hpos
      rcases hr with ⟨h1, _⟩ | h
      · omega
      · exact h
    obtain ⟨hp0, hp1⟩ := hin k hk
    simp only [Int.toNat_natCast, Nat.zero_add, true_and, and_true]
    refine ⟨⟨by omega, by omega⟩, hk, ⟨⟨x, S, [], none, 0, 0, []⟩, ⟨rfl, by simp, rfl, .inl rfl, fun _ => .inl rfl⟩, rfl, ?_⟩, fun y hy => ?_⟩
    · exact LeH.trans (LeH.more (b := ⟨0, .lst 0 0 [.ints .i64 (atI [])] [] (some (0, 3)), true⟩) rfl fun w => lst_nil (.inr ⟨_, rfl, rfl⟩)) (leAt [0, 1, 2, 3, 4] (by decide) ⟨LeB.refl _, LeB.refl _, LeB.refl _, LeB.refl _, LeB.refl _, trivial⟩)
    obtain ⟨y1, y2, y3, y4, y5⟩ := hy
    have yl1 : x.D.length = y.x.D.length + y.mv.length := by rw [y2]; simp
    have yl2 : y.x.U.length = y.mv.length + x.U.length := by rw [y3]; simp
    refine br_intro (fun hgt => ?_) (fun hle => ?_)
    · have hgt := of_decide_eq_true hgt
      refine ⟨y.x, y.S, _, _, _, rfl, by rw [← y1], rfl, ⟨by omega, by omega⟩, fun x' v code S' hrel m3 m4 => ⟨Nat.le_refl _, y5, ⟨by omega, by omega⟩, fun a' m5 m6 S5 g1 g2 => ?_⟩⟩
      obtain ⟨e0, ⟨e1, _⟩ | ⟨e1, e2, e3⟩⟩ := hrel
      · rw [e1] at hgt; simp only [List.length_nil] at hgt; omega
      have hl : (y.mv ++ [v]).length = y.mv.length + 1 := by simp
      have hl2 : y.x.D.length = x'.D.length + 1 := by rw [e1]; simp
      refine ⟨⟨x', S', y.mv ++ [v], a', m5, m6, S5⟩, ⟨e0.trans y1, by rw [y2, e1]; simp, by rw [e2, y3]; simp, .inr (by show _ ≤ (x'.D.length : Int); omega), by show emptyOk a' m5 (y.mv ++ [v]).length m6; rw [hl]; exact g2⟩, by show x'.D.length < _; omega, by simp only [AV.den, hl], ?_⟩
      dsimp only
      rw [hl]
      exact leAt [0, 1, 2, 3, 4] (by decide) ⟨LeB.refl _, LeB.refl _, LeB.cells (by simp only [denL, AV.den, e0.trans y1]) (fun h => h), LeB.refl _, LeB.ints (Nat.le_refl _) (fun h => h) (.inr rfl) (fun j hj => (atI_last y.mv v hj).symm), trivial⟩
    have hle := of_decide_eq_false hle
    refine ⟨⟨y, ⟨y1, ?_, y5⟩, rfl, LeH.refl _⟩, fun t ht => ?_⟩
    · rcases y4 with h | h
      · rcases Int.lt_or_eq_of_le (show (y.x.D.length : Int) ≤ atP2 M k by omega) with h2 | h2
        · refine .inr ⟨?_, ?_, by omega⟩
          · rw [y2, h]; simp
          · rw [y3, h]; simp
        · exact .inl ⟨y2, y3, h2.symm⟩
      · exact .inl ⟨y2, y3, by omega⟩
    obtain ⟨t1, t2, t3⟩ := ht
    refine br_intro (fun hlt => ?_) (fun hge => ?_)
    · have hlt := of_decide_eq_true hlt
      rcases t2 with ⟨t4, t5, t6⟩ | ⟨t4, t5, t6⟩
      · omega
      have tl1 : t.x.D.length = x.D.length + t.mv.length := by rw [t4]; simp
      have tl2 : x.U.length = t.mv.length + t.x.U.length := by rw [t5]; simp
      refine ⟨t.x, t.S, _, _, _, rfl, by rw [← t1], rfl, ⟨by omega, by omega⟩, fun x' v code S' hrel m3 m4 => ⟨Nat.le_refl _, t3, ⟨by omega, by omega⟩, fun a' m5 m6 S5 g1 g2 => ?_⟩⟩
      obtain ⟨e0, ⟨e1, _⟩ | ⟨e1, e2, e3⟩⟩ := hrel
      · rw [e1] at tl2; simp only [List.length_nil] at tl2; omega
      have hl : (t.mv ++ [v]).length = t.mv.length + 1 := by simp
      have hl2 : t.x.U.length = x'.U.length + 1 := by rw [e1]; simp
      have hl3 : x'.D.length = t.x.D.length + 1 := by rw [e2]; simp
      refine ⟨⟨x', S', t.mv ++ [v], a', m5, m6, S5⟩, ⟨e0.trans t1, .inr ⟨by rw [e2, t4]; simp, by rw [t5, e1]; simp, by show (x'.D.length : Int) ≤ _; omega⟩, by show emptyOk a' m5 (t.mv ++ [v]).length m6; rw [hl]; exact g2⟩, by show x'.U.length < _; omega, by simp only [AV.den, hl], ?_⟩
      dsimp only
      rw [hl]
      exact leAt [0, 1, 2, 3, 4] (by decide) ⟨LeB.refl _, LeB.refl _, LeB.cells (by simp only [denL, AV.den, e0.trans t1]) (fun h => h), LeB.refl _, LeB.ints (Nat.le_refl _) (fun h => h) (.inr rfl) (fun j hj => (atI_last t.mv v hj).symm), trivial⟩
    · have hge := of_decide_eq_false hge
      refine ⟨t.x, t.S, t.mv, t.a, t.n, t.cap, t.S4, 0, .inr ⟨k, hk, hnm, ⟨t1, ?_⟩, rfl⟩, ?_, leAt [0, 4] (by decide) ⟨LeB.refl _, LeB.ints (Nat.le_refl _) (fun h => h) (.inl rfl) (fun _ _ => rfl), trivial⟩⟩
      · rcases t2 with ⟨t4, t5, t6⟩ | ⟨t4, t5, t6⟩
        · exact .inl ⟨t4, t5, t6⟩
        · exact .inr ⟨t4, t5, by omega⟩
      · simp only [RH.v, AV.den, denL, t1])

theorem rto_ok : HOk Try.prog 31 rtoH := HOk.of_at_r (enters_of (c := body Try.f31) Try.func31 rfl (by kernel_rfl)) fun rs args H K hk => by
  unfold rtoH at hk
  split at hk
  · rename_i id q a1 l1 k1 a2 l2 k2 i b3 n3 o3 l3 c3 nm hid
    obtain ⟨x, S, M, S3, w, h1, hx, h2, rfl, hne, ⟨h3, h4, h5⟩, hk⟩ := hk
    rw [← hx]
    refine ⟨id, refB x S, [rMr n3 o3 M S3], [x.v (.os 1 b3 n3 o3 0 2 M.length c3), .v (.string nm)], _, by rw [← nth_eq]; exact h1, leAt (H := H) [id, i] (by simp [hne]) ?_, fun y hy => by cases List.mem_singleton.1 hy; rfl, rfl, rto_lc x S b3 n3 o3 c3 M S3 nm h3 h4 h5, fun z H' hz => ?_⟩
    · simp only [pickH, h1, h2]
      exact ⟨LeB.refl _, LeB.lst rfl (Nat.le_refl _) (fun h => (by cases h)) (.inl rfl) (fun _ _ => rfl), trivial⟩
    · obtain ⟨x', S', mv, a, n, cap, S4, code, q1, q2, q3⟩ := hz
      refine ⟨.tup [x'.v (.os i b3 n3 o3 0 2 M.length c3), .os H.length a n 0 0 1 mv.length cap, .v (.int .i64 code)], refB x' S', [lI n mv S4 true], ?_, hk x' mv code S' a n cap S4 q1, q3, fun b hb => ?_⟩
      · rw [q2]
        simp only [RH.v, AV.den, denL]
      · simp at hb
        rcases hb with rfl | rfl <;> rfl
  · cases hk

end Go.Proofs.Ytkjnkepdhbpnbaa

namespace Go.Sp

/-- Marks but one. -/
def exI (M : List (ByteArray × Int)) (r : Int) : Nat → List (ByteArray × Int)
  | 0 => []
  | i + 1 => exI M r i ++ (if (i : Int) = r then [] else [(atP1 M i, atP2 M i)])

/-- Marks that stay when things go. -/
def stI (M : List (ByteArray × Int)) (top low : Int) : Nat → List (ByteArray × Int)
  | 0 => []
  | i + 1 => stI M top low i ++ (if atP2 M i ≤ top ∧ low ≤ atP2 M i then [(atP1 M i, atP2 M i - low)] else [])

end Go.Sp
namespace Go.Eng
open Go.Sp

/-- Marks that are gathered. -/
structure MX where
  i : Nat
  a : Option Addr
  n : Nat
  cap : Nat
  S : List Nat

abbrev mB (n : Nat) (l : List (ByteArray × Int)) (S : List Nat) (cap : Nat) : Blk := ⟨n, .lst 0 l.length [.strs (atP1 l), .ints .i64 (atP2 l)] S (some (cap, 73)), true⟩

def rmkJ (M : List (ByteArray × Int)) : Nat → TT → HH → LI := fun _ T H =>
  match H, T.get 6 with
  | bM :: b1 :: b2 :: _, some (.v (.int _ r)) =>
    .inv MX (fun x => ((8, .v (.int .i64 (x.i : Int))) :: (7, .os 3 x.a x.n 0 0 2 (exI M r x.i).length x.cap) :: keepT [1, 2, 4, 6] T, [bM, b1, b2, mB x.n (exI M r x.i) x.S x.cap]))
      (fun x => x.i ≤ M.length ∧ emptyOk x.a x.n (exI M r x.i).length x.cap) (fun x => M.length - x.i)
  | _, _ => .unroll 0

end Go.Eng
namespace Go.Proofs.Ytkjnkepdhbpnbaa
open Go Go.Eng Go.Sp
set_option linter.unusedVariables false
set_option linter.unusedSimpArgs false


set_option maxRecDepth 100000 in
theorem rmk_vc (most : Int) (a1 a2 b3 : Option Addr) (l1 l2 k1 k2 n3 o3 c3 : Nat) (M : List (ByteArray × Int)) (S3 : List Nat) (nm : ByteArray) {R : AV → HH → Prop} (h : (∀ (n1 n2 : Nat),
 br (eqS nm (ByteArray.mk #[])) (n1 = n1 ∧ n2 = n2 ∧ n2 = n2 ∧ R (AV.tup [AV.agg [AV.v (Value.int IntKind.i64 most), AV.v (Value.slice a1 l1 k1), AV.v (Value.slice a2 l2 k2), AV.os (0 : Nat) b3 n3 o3 (0 : Nat) (2 : Nat) M.length c3], AV.v (Value.int IntKind.i64 (2 : Int))]) [Blk.mk n3 (Cont.lst o3 M.length [Col.strs (atP1 M), Col.ints IntKind.i64 (atP2 M)] S3 none) false, Blk.mk n1 (Cont.cells [AV.v (Value.int IntKind.i64 most), AV.v (Value.slice a1 l1 k1), AV.v (Value.slice a2 l2 k2), AV.os (0 : Nat) b3 n3 o3 (0 : Nat) (2 : Nat) M.length c3] (38 : Nat)) true, Blk.mk n2 (Cont.cells [AV.v (Value.int IntKind.i64 most), AV.v (Value.slice a1 l1 k1), AV.v (Value.slice a2 l2 k2), AV.os (0 : Nat) b3 n3 o3 (0 : Nat) (2 : Nat) M.length c3] (38 : Nat)) true])
 (br (decide ((↑nm.size : Int) > (20 : Int))) (n1 = n1 ∧ n2 = n2 ∧ n2 = n2 ∧ R (AV.tup [AV.agg [AV.v (Value.int IntKind.i64 most), AV.v (Value.slice a1 l1 k1), AV.v (Value.slice a2 l2 k2), AV.os (0 : Nat) b3 n3 o3 (0 : Nat) (2 : Nat) M.length c3], AV.v (Value.int IntKind.i64 (2 : Int))]) [Blk.mk n3 (Cont.lst o3 M.length [Col.strs (atP1 M), Col.ints IntKind.i64 (atP2 M)] S3 none) false, Blk.mk n1 (Cont.cells [AV.v (Value.int IntKind.i64 most), AV.v (Value.slice a1 l1 k1), AV.v (Value.slice a2 l2 k2), AV.os (0 : Nat) b3 n3 o3 (0 : Nat) (2 : Nat) M.length c3] (38 : Nat)) true, Blk.mk n2 (Cont.cells [AV.v (Value.int IntKind.i64 most), AV.v (Value.slice a1 l1 k1), AV.v (Value.slice a2 l2 k2), AV.os (0 : Nat) b3 n3 o3 (0 : Nat) (2 : Nat) M.length c3] (38 : Nat)) true])
 (n1 = n1 ∧
 ∃ (M_1 : List (ByteArray × Int)),
 ∃ (S : List Nat),
 ∃ (w : Bool),
 some (Blk.mk n3 (Cont.lst o3 M.length [Col.strs (atP1 M), Col.ints IntKind.i64 (atP2 M)] S3 none) false) = some (Blk.mk n3 (Cont.lst o3 M_1.length [Col.strs (atP1 M_1), Col.ints IntKind.i64 (atP2 M_1)] S none) w) ∧
 M.length = M_1.length ∧
 M_1.length ≤ (1048576 : Nat) ∧
 ∀ (r : Int),
 relF M_1 nm r →
 br (decide (r < (0 : Int)))
 (n1 = n1 ∧
 br (decide ((↑M.length : Int) ≥ (16 : Int))) (n1 = n1 ∧ n2 = n2 ∧ n2 = n2 ∧ R (AV.tup [AV.agg [AV.v (Value.int IntKind.i64 most), AV.v (Value.slice a1 l1 k1), AV.v (Value.slice a2 l2 k2), AV.os (0 : Nat) b3 n3 o3 (0 : Nat) (2 : Nat) M.length c3], AV.v (Value.int IntKind.i64 (7 : Int))]) [Blk.mk n3 (Cont.lst o3 M.length [Col.strs (atP1 M), Col.ints IntKind.i64 (atP2 M)] S3 none) false, Blk.mk n1 (Cont.cells [AV.v (Value.int IntKind.i64 most), AV.v (Value.slice a1 l1 k1), AV.v (Value.slice a2 l2 k2), AV.os (0 : Nat) b3 n3 o3 (0 : Nat) (2 : Nat) M.length c3] (38 : Nat)) true, Blk.mk n2 (Cont.cells [AV.v (Value.int IntKind.i64 most), AV.v (Value.slice a1 l1 k1), AV.v (Value.slice a2 l2 k2), AV.os (0 : Nat) b3 n3 o3 (0 : Nat) (2 : Nat) M.length c3] (38 : Nat)) true])
 ((∃ (x : MX), (x.i ≤ M.length ∧ emptyOk x.a x.n (exI M r x.i).length x.cap) ∧ ((AV.v (Value.int IntKind.i64 (0 : Int))).den = (AV.v (Value.int IntKind.i64 (↑x.i : Int))).den ∧ (AV.v (Value.slice none (0 : Nat) (0 : Nat))).den = (AV.os (3 : Nat) x.a x.n (0 : Nat) (0 : Nat) (2 : Nat) (exI M r x.i).length x.cap).den ∧ (AV.v (Value.string nm)).den = (AV.v (Value.string nm)).den ∧ (AV.ptr (1 : Nat) n1 (0 : Nat)).den = (AV.ptr (1 : Nat) n1 (0 : Nat)).den ∧ (AV.ptr (2 : Nat) n2 (0 : Nat)).den = (AV.ptr (2 : Nat) n2 (0 : Nat)).den ∧ (AV.v (Value.int IntKind.i64 r)).den = (AV.v (Value.int IntKind.i64 r)).den ∧ True) ∧ LeH [Blk.mk n3 (Cont.lst o3 M.length [Col.strs (atP1 M), Col.ints IntKind.i64 (atP2 M)] S3 none) false, Blk.mk n1 (Cont.cells [AV.v (Value.int IntKind.i64 most), AV.v (Value.slice a1 l1 k1), AV.v (Value.slice a2 l2 k2), AV.os (0 : Nat) b3 n3 o3 (0 : Nat) (2 : Nat) M.length c3] (38 : Nat)) true, Blk.mk n2 (Cont.cells [AV.v (Value.int IntKind.i64 (0 : Int)), AV.v (Value.slice none (0 : Nat) (0 : Nat)), AV.v (Value.slice none (0 : Nat) (0 : Nat)), AV.v (Value.slice none (0 : Nat) (0 : Nat))] (38 : Nat)) true] [Blk.mk n3 (Cont.lst o3 M.length [Col.strs (atP1 M), Col.ints IntKind.i64 (atP2 M)] S3 none) false, Blk.mk n1 (Cont.cells [AV.v (Value.int IntKind.i64 most), AV.v (Value.slice a1 l1 k1), AV.v (Value.slice a2 l2 k2), AV.os (0 : Nat) b3 n3 o3 (0 : Nat) (2 : Nat) M.length c3] (38 : Nat)) true, Blk.mk n2 (Cont.cells [AV.v (Value.int IntKind.i64 (0 : Int)), AV.v (Value.slice none (0 : Nat) (0 : Nat)), AV.v (Value.slice none (0 : Nat) (0 : Nat)), AV.v (Value.slice none (0 : Nat) (0 : Nat))] (38 : Nat)) true, Blk.mk x.n (Cont.lst (0 : Nat) (exI M r x.i).length [Col.strs (atP1 (exI M r x.i)), Col.ints IntKind.i64 (atP2 (exI M r x.i))] x.S (some (x.cap, (73 : TypeId)))) true]) ∧
 ∀ (x : MX),
 x.i ≤ M.length ∧ emptyOk x.a x.n (exI M r x.i).length x.cap →
 n1 = n1 ∧
 br (decide ((↑x.i : Int) < (↑M.length : Int)))
 (br ((↑x.i : Int) != r)
 (n1 = n1 ∧
 ((0 : Int) ≤ (↑x.i : Int) ∧ (↑x.i : Int) < (↑M.length : Int)) ∧
 n3 = n3 ∧
 o3 = o3 ∧
 (0 : Nat) + (↑x.i : Int).toNat < M.length ∧
 ∀ (n10 : Nat),
 n10 = n10 ∧
 x.n = x.n ∧
 (0 : Nat) = (0 : Nat) ∧
 (0 : Nat) = (0 : Nat) ∧
 (exI M r x.i).length ≤ (exI M r x.i).length ∧
 x.cap = x.cap ∧
 ((exI M r x.i).length = (0 : Nat) → x.cap = (0 : Nat) ∨ x.a = some (Addr.mk x.n (0 : Nat) none)) ∧
 ((exI M r x.i).length + (1 : Nat) ≤ (9223372036854775807 : Nat) ∧ ((exI M r x.i).length + (1 : Nat) + ((exI M r x.i).length + (1 : Nat)) / (4 : Nat) + (192 : Nat)) * (24 : Nat) ≤ (281474976710656 : Nat)) ∧
 ∀ (a' : Option Addr) (n12 n13 : Nat) (S' : List Nat),
 (exI M r x.i).length + (1 : Nat) ≤ n13 →
 emptyOk a' n12 ((exI M r x.i).length + (1 : Nat)) n13 →
 ∃ (x' : MX),
 (x'.i ≤ M.length ∧ emptyOk x'.a x'.n (exI M r x'.i).length x'.cap) ∧
 M.length - x'.i < M.length - x.i ∧
 ((AV.v (Value.int IntKind.i64 (IntKind.i64.wrap ((↑x.i : Int) + (1 : Int))))).den = (AV.v (Value.int IntKind.i64 (↑x'.i : Int))).den ∧ (AV.os (3 : Nat) a' n12 (0 : Nat) (0 : Nat) (2 : Nat) ((exI M r x.i).length + (1 : Nat)) n13).den = (AV.os (3 : Nat) x'.a x'.n (0 : Nat) (0 : Nat) (2 : Nat) (exI M r x'.i).length x'.cap).den ∧ (AV.v (Value.string nm)).den = (AV.v (Value.string nm)).den ∧ (AV.ptr (1 : Nat) n1 (0 : Nat)).den = (AV.ptr (1 : Nat) n1 (0 : Nat)).den ∧ (AV.ptr (2 : Nat) n2 (0 : Nat)).den = (AV.ptr (2 : Nat) n2 (0 : Nat)).den ∧ (AV.v (Value.int IntKind.i64 r)).den = (AV.v (Value.int IntKind.i64 r)).den ∧ True) ∧
 LeH
 [Blk.mk n3 (Cont.lst o3 M.length [Col.strs (atP1 M), Col.ints IntKind.i64 (atP2 M)] S3 none) false, Blk.mk n1 (Cont.cells [AV.v (Value.int IntKind.i64 most), AV.v (Value.slice a1 l1 k1), AV.v (Value.slice a2 l2 k2), AV.os (0 : Nat) b3 n3 o3 (0 : Nat) (2 : Nat) M.length c3] (38 : Nat)) true, Blk.mk n2 (Cont.cells [AV.v (Value.int IntKind.i64 (0 : Int)), AV.v (Value.slice none (0 : Nat) (0 : Nat)), AV.v (Value.slice none (0 : Nat) (0 : Nat)), AV.v (Value.slice none (0 : Nat) (0 : Nat))] (38 : Nat)) true,
 Blk.mk n12
 (Cont.lst (0 : Nat) ((exI M r x.i).length + (1 : Nat))
 [Col.strs fun (i : Nat) =>
 if i < (exI M r x.i).length then atP1 (exI M r x.i) i
 else
 if i < (exI M r x.i).length + (1 : Nat) then
 match asS ((nth [AV.v (Value.string (atP1 M ((0 : Nat) + (↑x.i : Int).toNat))), AV.v (Value.int IntKind.i64 (atP2 M ((0 : Nat) + (↑x.i : Int).toNat)))] (((0 : Nat) + (i - (exI M r x.i).length)) * (2 : Nat) + nat_lit 0)).getD (AV.v undef)) with
 | some x => x
 | none => ByteArray.empty
 else ByteArray.empty,
 Col.ints IntKind.i64 fun (i : Nat) =>
 if i < (exI M r x.i).length then atP2 (exI M r x.i) i
 else
 if i < (exI M r x.i).length + (1 : Nat) then
 match asI IntKind.i64 ((nth [AV.v (Value.string (atP1 M ((0 : Nat) + (↑x.i : Int).toNat))), AV.v (Value.int IntKind.i64 (atP2 M ((0 : Nat) + (↑x.i : Int).toNat)))] (((0 : Nat) + (i - (exI M r x.i).length)) * (2 : Nat) + nat_lit 1)).getD (AV.v undef)) with
 | some x => x
 | none => (0 : Int)
 else (0 : Int)]
 S' (some (n13, (73 : Nat))))
 true,
 Blk.mk n10 (Cont.cells [AV.v (Value.string (atP1 M ((0 : Nat) + (↑x.i : Int).toNat))), AV.v (Value.int IntKind.i64 (atP2 M ((0 : Nat) + (↑x.i : Int).toNat)))] (73 : Nat)) true]
 [Blk.mk n3 (Cont.lst o3 M.length [Col.strs (atP1 M), Col.ints IntKind.i64 (atP2 M)] S3 none) false, Blk.mk n1 (Cont.cells [AV.v (Value.int IntKind.i64 most), AV.v (Value.slice a1 l1 k1), AV.v (Value.slice a2 l2 k2), AV.os (0 : Nat) b3 n3 o3 (0 : Nat) (2 : Nat) M.length c3] (38 : Nat)) true, Blk.mk n2 (Cont.cells [AV.v (Value.int IntKind.i64 (0 : Int)), AV.v (Value.slice none (0 : Nat) (0 : Nat)), AV.v (Value.slice none (0 : Nat) (0 : Nat)), AV.v (Value.slice none (0 : Nat) (0 : Nat))] (38 : Nat)) true, Blk.mk x'.n (Cont.lst (0 : Nat) (exI M r x'.i).length [Col.strs (atP1 (exI M r x'.i)), Col.ints IntKind.i64 (atP2 (exI M r x'.i))] x'.S (some (x'.cap, (73 : TypeId)))) true])
 (∃ (x' : MX), (x'.i ≤ M.length ∧ emptyOk x'.a x'.n (exI M r x'.i).length x'.cap) ∧ M.length - x'.i < M.length - x.i ∧ ((AV.v (Value.int IntKind.i64 (IntKind.i64.wrap ((↑x.i : Int) + (1 : Int))))).den = (AV.v (Value.int IntKind.i64 (↑x'.i : Int))).den ∧ (AV.os (3 : Nat) x.a x.n (0 : Nat) (0 : Nat) (2 : Nat) (exI M r x.i).length x.cap).den = (AV.os (3 : Nat) x'.a x'.n (0 : Nat) (0 : Nat) (2 : Nat) (exI M r x'.i).length x'.cap).den ∧ (AV.v (Value.string nm)).den = (AV.v (Value.string nm)).den ∧ (AV.ptr (1 : Nat) n1 (0 : Nat)).den = (AV.ptr (1 : Nat) n1 (0 : Nat)).den ∧ (AV.ptr (2 : Nat) n2 (0 : Nat)).den = (AV.ptr (2 : Nat) n2 (0 : Nat)).den ∧ (AV.v (Value.int IntKind.i64 r)).den = (AV.v (Value.int IntKind.i64 r)).den ∧ True) ∧ LeH [Blk.mk n3 (Cont.lst o3 M.length [Col.strs (atP1 M), Col.ints IntKind.i64 (atP2 M)] S3 none) false, Blk.mk n1 (Cont.cells [AV.v (Value.int IntKind.i64 most), AV.v (Value.slice a1 l1 k1), AV.v (Value.slice a2 l2 k2), AV.os (0 : Nat) b3 n3 o3 (0 : Nat) (2 : Nat) M.length c3] (38 : Nat)) true, Blk.mk n2 (Cont.cells [AV.v (Value.int IntKind.i64 (0 : Int)), AV.v (Value.slice none (0 : Nat) (0 : Nat)), AV.v (Value.slice none (0 : Nat) (0 : Nat)), AV.v (Value.slice none (0 : Nat) (0 : Nat))] (38 : Nat)) true, Blk.mk x.n (Cont.lst (0 : Nat) (exI M r x.i).length [Col.strs (atP1 (exI M r x.i)), Col.ints IntKind.i64 (atP2 (exI M r x.i))] x.S (some (x.cap, (73 : TypeId)))) true] [Blk.mk n3 (Cont.lst o3 M.length [Col.strs (atP1 M), Col.ints IntKind.i64 (atP2 M)] S3 none) false, Blk.mk n1 (Cont.cells [AV.v (Value.int IntKind.i64 most), AV.v (Value.slice a1 l1 k1), AV.v (Value.slice a2 l2 k2), AV.os (0 : Nat) b3 n3 o3 (0 : Nat) (2 : Nat) M.length c3] (38 : Nat)) true, Blk.mk n2 (Cont.cells [AV.v (Value.int IntKind.i64 (0 : Int)), AV.v (Value.slice none (0 : Nat) (0 : Nat)), AV.v (Value.slice none (0 : Nat) (0 : Nat)), AV.v (Value.slice none (0 : Nat) (0 : Nat))] (38 : Nat)) true, Blk.mk x'.n (Cont.lst (0 : Nat) (exI M r x'.i).length [Col.strs (atP1 (exI M r x'.i)), Col.ints IntKind.i64 (atP2 (exI M r x'.i))] x'.S (some (x'.cap, (73 : TypeId)))) true]))
 (n1 = n1 ∧
 ∀ (n10 : Nat),
 n10 = n10 ∧
 x.n = x.n ∧
 (0 : Nat) = (0 : Nat) ∧
 (0 : Nat) = (0 : Nat) ∧
 (exI M r x.i).length ≤ (exI M r x.i).length ∧
 x.cap = x.cap ∧
 ((exI M r x.i).length = (0 : Nat) → x.cap = (0 : Nat) ∨ x.a = some (Addr.mk x.n (0 : Nat) none)) ∧
 ((exI M r x.i).length + (1 : Nat) ≤ (9223372036854775807 : Nat) ∧ ((exI M r x.i).length + (1 : Nat) + ((exI M r x.i).length + (1 : Nat)) / (4 : Nat) + (192 : Nat)) * (24 : Nat) ≤ (281474976710656 : Nat)) ∧
 ∀ (a' : Option Addr) (n12 n13 : Nat) (S' : List Nat),
 (exI M r x.i).length + (1 : Nat) ≤ n13 →
 emptyOk a' n12 ((exI M r x.i).length + (1 : Nat)) n13 →
 n1 = n1 ∧
 n1 = n1 ∧
 n2 = n2 ∧
 n2 = n2 ∧
 R (AV.tup [AV.agg [AV.v (Value.int IntKind.i64 most), AV.v (Value.slice a1 l1 k1), AV.v (Value.slice a2 l2 k2), AV.os (3 : Nat) a' n12 (0 : Nat) (0 : Nat) (2 : Nat) ((exI M r x.i).length + (1 : Nat)) n13], AV.v (Value.int IntKind.i64 (0 : Int))])
 [Blk.mk n3 (Cont.lst o3 M.length [Col.strs (atP1 M), Col.ints IntKind.i64 (atP2 M)] S3 none) false, Blk.mk n1 (Cont.cells [AV.v (Value.int IntKind.i64 most), AV.v (Value.slice a1 l1 k1), AV.v (Value.slice a2 l2 k2), AV.os (3 : Nat) a' n12 (0 : Nat) (0 : Nat) (2 : Nat) ((exI M r x.i).length + (1 : Nat)) n13] (38 : Nat)) true, Blk.mk n2 (Cont.cells [AV.v (Value.int IntKind.i64 most), AV.v (Value.slice a1 l1 k1), AV.v (Value.slice a2 l2 k2), AV.os (3 : Nat) a' n12 (0 : Nat) (0 : Nat) (2 : Nat) ((exI M r x.i).length + (1 : Nat)) n13] (38 : Nat)) true,
 Blk.mk n12
 (Cont.lst (0 : Nat) ((exI M r x.i).length + (1 : Nat))
 [Col.strs fun (i : Nat) =>
 if i < (exI M r x.i).length then atP1 (exI M r x.i) i
 else
 if i < (exI M r x.i).length + (1 : Nat) then
 match asS ((nth [AV.v (Value.string nm), AV.v (Value.int IntKind.i64 (↑l1 : Int))] (((0 : Nat) + (i - (exI M r x.i).length)) * (2 : Nat) + nat_lit 0)).getD (AV.v undef)) with
 | some x => x
 | none => ByteArray.empty
 else ByteArray.empty,
 Col.ints IntKind.i64 fun (i : Nat) =>
 if i < (exI M r x.i).length then atP2 (exI M r x.i) i
 else
 if i < (exI M r x.i).length + (1 : Nat) then
 match asI IntKind.i64 ((nth [AV.v (Value.string nm), AV.v (Value.int IntKind.i64 (↑l1 : Int))] (((0 : Nat) + (i - (exI M r x.i).length)) * (2 : Nat) + nat_lit 1)).getD (AV.v undef)) with
 | some x => x
 | none => (0 : Int)
 else (0 : Int)]
 S' (some (n13, (73 : Nat))))
 true,
 Blk.mk n10 (Cont.cells [AV.v (Value.string nm), AV.v (Value.int IntKind.i64 (↑l1 : Int))] (73 : Nat)) true])))
 ((∃ (x : MX), (x.i ≤ M.length ∧ emptyOk x.a x.n (exI M r x.i).length x.cap) ∧ ((AV.v (Value.int IntKind.i64 (0 : Int))).den = (AV.v (Value.int IntKind.i64 (↑x.i : Int))).den ∧ (AV.v (Value.slice none (0 : Nat) (0 : Nat))).den = (AV.os (3 : Nat) x.a x.n (0 : Nat) (0 : Nat) (2 : Nat) (exI M r x.i).length x.cap).den ∧ (AV.v (Value.string nm)).den = (AV.v (Value.string nm)).den ∧ (AV.ptr (1 : Nat) n1 (0 : Nat)).den = (AV.ptr (1 : Nat) n1 (0 : Nat)).den ∧ (AV.ptr (2 : Nat) n2 (0 : Nat)).den = (AV.ptr (2 : Nat) n2 (0 : Nat)).den ∧ (AV.v (Value.int IntKind.i64 r)).den = (AV.v (Value.int IntKind.i64 r)).den ∧ True) ∧ LeH [Blk.mk n3 (Cont.lst o3 M.length [Col.strs (atP1 M), Col.ints IntKind.i64 (atP2 M)] S3 none) false, Blk.mk n1 (Cont.cells [AV.v (Value.int IntKind.i64 most), AV.v (Value.slice a1 l1 k1), AV.v (Value.slice a2 l2 k2), AV.os (0 : Nat) b3 n3 o3 (0 : Nat) (2 : Nat) M.length c3] (38 : Nat)) true, Blk.mk n2 (Cont.cells [AV.v (Value.int IntKind.i64 (0 : Int)), AV.v (Value.slice none (0 : Nat) (0 : Nat)), AV.v (Value.slice none (0 : Nat) (0 : Nat)), AV.v (Value.slice none (0 : Nat) (0 : Nat))] (38 : Nat)) true] [Blk.mk n3 (Cont.lst o3 M.length [Col.strs (atP1 M), Col.ints IntKind.i64 (atP2 M)] S3 none) false, Blk.mk n1 (Cont.cells [AV.v (Value.int IntKind.i64 most), AV.v (Value.slice a1 l1 k1), AV.v (Value.slice a2 l2 k2), AV.os (0 : Nat) b3 n3 o3 (0 : Nat) (2 : Nat) M.length c3] (38 : Nat)) true, Blk.mk n2 (Cont.cells [AV.v (Value.int IntKind.i64 (0 : Int)), AV.v (Value.slice none (0 : Nat) (0 : Nat)), AV.v (Value.slice none (0 : Nat) (0 : Nat)), AV.v (Value.slice none (0 : Nat) (0 : Nat))] (38 : Nat)) true, Blk.mk x.n (Cont.lst (0 : Nat) (exI M r x.i).length [Col.strs (atP1 (exI M r x.i)), Col.ints IntKind.i64 (atP2 (exI M r x.i))] x.S (some (x.cap, (73 : TypeId)))) true]) ∧
 ∀ (x : MX),
 x.i ≤ M.length ∧ emptyOk x.a x.n (exI M r x.i).length x.cap →
 n1 = n1 ∧
 br (decide ((↑x.i : Int) < (↑M.length : Int)))
 (br ((↑x.i : Int) != r)
 (n1 = n1 ∧
 ((0 : Int) ≤ (↑x.i : Int) ∧ (↑x.i : Int) < (↑M.length : Int)) ∧
 n3 = n3 ∧
 o3 = o3 ∧
 (0 : Nat) + (↑x.i : Int).toNat < M.length ∧
 ∀ (n10 : Nat),
 n10 = n10 ∧
 x.n = x.n ∧
 (0 : Nat) = (0 : Nat) ∧
 (0 : Nat) = (0 : Nat) ∧
 (exI M r x.i).length ≤ (exI M r x.i).length ∧
 x.cap = x.cap ∧
 ((exI M r x.i).length = (0 : Nat) → x.cap = (0 : Nat) ∨ x.a = some (Addr.mk x.n (0 : Nat) none)) ∧
 ((exI M r x.i).length + (1 : Nat) ≤ (9223372036854775807 : Nat) ∧ ((exI M r x.i).length + (1 : Nat) + ((exI M r x.i).length + (1 : Nat)) / (4 : Nat) + (192 : Nat)) * (24 : Nat) ≤ (281474976710656 : Nat)) ∧
 ∀ (a' : Option Addr) (n12 n13 : Nat) (S' : List Nat),
 (exI M r x.i).length + (1 : Nat) ≤ n13 →
 emptyOk a' n12 ((exI M r x.i).length + (1 : Nat)) n13 →
 ∃ (x' : MX),
 (x'.i ≤ M.length ∧ emptyOk x'.a x'.n (exI M r x'.i).length x'.cap) ∧
 M.length - x'.i < M.length - x.i ∧
 ((AV.v (Value.int IntKind.i64 (IntKind.i64.wrap ((↑x.i : Int) + (1 : Int))))).den = (AV.v (Value.int IntKind.i64 (↑x'.i : Int))).den ∧ (AV.os (3 : Nat) a' n12 (0 : Nat) (0 : Nat) (2 : Nat) ((exI M r x.i).length + (1 : Nat)) n13).den = (AV.os (3 : Nat) x'.a x'.n (0 : Nat) (0 : Nat) (2 : Nat) (exI M r x'.i).length x'.cap).den ∧ (AV.v (Value.string nm)).den = (AV.v (Value.string nm)).den ∧ (AV.ptr (1 : Nat) n1 (0 : Nat)).den = (AV.ptr (1 : Nat) n1 (0 : Nat)).den ∧ (AV.ptr (2 : Nat) n2 (0 : Nat)).den = (AV.ptr (2 : Nat) n2 (0 : Nat)).den ∧ (AV.v (Value.int IntKind.i64 r)).den = (AV.v (Value.int IntKind.i64 r)).den ∧ True) ∧
 LeH
 [Blk.mk n3 (Cont.lst o3 M.length [Col.strs (atP1 M), Col.ints IntKind.i64 (atP2 M)] S3 none) false, Blk.mk n1 (Cont.cells [AV.v (Value.int IntKind.i64 most), AV.v (Value.slice a1 l1 k1), AV.v (Value.slice a2 l2 k2), AV.os (0 : Nat) b3 n3 o3 (0 : Nat) (2 : Nat) M.length c3] (38 : Nat)) true, Blk.mk n2 (Cont.cells [AV.v (Value.int IntKind.i64 (0 : Int)), AV.v (Value.slice none (0 : Nat) (0 : Nat)), AV.v (Value.slice none (0 : Nat) (0 : Nat)), AV.v (Value.slice none (0 : Nat) (0 : Nat))] (38 : Nat)) true,
 Blk.mk n12
 (Cont.lst (0 : Nat) ((exI M r x.i).length + (1 : Nat))
 [Col.strs fun (i : Nat) =>
 if i < (exI M r x.i).length then atP1 (exI M r x.i) i
 else
 if i < (exI M r x.i).length + (1 : Nat) then
 match asS ((nth [AV.v (Value.string (atP1 M ((0 : Nat) + (↑x.i : Int).toNat))), AV.v (Value.int IntKind.i64 (atP2 M ((0 : Nat) + (↑x.i : Int).toNat)))] (((0 : Nat) + (i - (exI M r x.i).length)) * (2 : Nat) + nat_lit 0)).getD (AV.v undef)) with
 | some x => x
 | none => ByteArray.empty
 else ByteArray.empty,
 Col.ints IntKind.i64 fun (i : Nat) =>
 if i < (exI M r x.i).length then atP2 (exI M r x.i) i
 else
 if i < (exI M r x.i).length + (1 : Nat) then
 match asI IntKind.i64 ((nth [AV.v (Value.string (atP1 M ((0 : Nat) + (↑x.i : Int).toNat))), AV.v (Value.int IntKind.i64 (atP2 M ((0 : Nat) + (↑x.i : Int).toNat)))] (((0 : Nat) + (i - (exI M r x.i).length)) * (2 : Nat) + nat_lit 1)).getD (AV.v undef)) with
 | some x => x
 | none => (0 : Int)
 else (0 : Int)]
 S' (some (n13, (73 : Nat))))
 true,
 Blk.mk n10 (Cont.cells [AV.v (Value.string (atP1 M ((0 : Nat) + (↑x.i : Int).toNat))), AV.v (Value.int IntKind.i64 (atP2 M ((0 : Nat) + (↑x.i : Int).toNat)))] (73 : Nat)) true]
 [Blk.mk n3 (Cont.lst o3 M.length [Col.strs (atP1 M), Col.ints IntKind.i64 (atP2 M)] S3 none) false, Blk.mk n1 (Cont.cells [AV.v (Value.int IntKind.i64 most), AV.v (Value.slice a1 l1 k1), AV.v (Value.slice a2 l2 k2), AV.os (0 : Nat) b3 n3 o3 (0 : Nat) (2 : Nat) M.length c3] (38 : Nat)) true, Blk.mk n2 (Cont.cells [AV.v (Value.int IntKind.i64 (0 : Int)), AV.v (Value.slice none (0 : Nat) (0 : Nat)), AV.v (Value.slice none (0 : Nat) (0 : Nat)), AV.v (Value.slice none (0 : Nat) (0 : Nat))] (38 : Nat)) true, Blk.mk x'.n (Cont.lst (0 : Nat) (exI M r x'.i).length [Col.strs (atP1 (exI M r x'.i)), Col.ints IntKind.i64 (atP2 (exI M r x'.i))] x'.S (some (x'.cap, (73 : TypeId)))) true])
 (∃ (x' : MX), (x'.i ≤ M.length ∧ emptyOk x'.a x'.n (exI M r x'.i).length x'.cap) ∧ M.length - x'.i < M.length - x.i ∧ ((AV.v (Value.int IntKind.i64 (IntKind.i64.wrap ((↑x.i : Int) + (1 : Int))))).den = (AV.v (Value.int IntKind.i64 (↑x'.i : Int))).den ∧ (AV.os (3 : Nat) x.a x.n (0 : Nat) (0 : Nat) (2 : Nat) (exI M r x.i).length x.cap).den = (AV.os (3 : Nat) x'.a x'.n (0 : Nat) (0 : Nat) (2 : Nat) (exI M r x'.i).length x'.cap).den ∧ (AV.v (Value.string nm)).den = (AV.v (Value.string nm)).den ∧ (AV.ptr (1 : Nat) n1 (0 : Nat)).den = (AV.ptr (1 : Nat) n1 (0 : Nat)).den ∧ (AV.ptr (2 : Nat) n2 (0 : Nat)).den = (AV.ptr (2 : Nat) n2 (0 : Nat)).den ∧ (AV.v (Value.int IntKind.i64 r)).den = (AV.v (Value.int IntKind.i64 r)).den ∧ True) ∧ LeH [Blk.mk n3 (Cont.lst o3 M.length [Col.strs (atP1 M), Col.ints IntKind.i64 (atP2 M)] S3 none) false, Blk.mk n1 (Cont.cells [AV.v (Value.int IntKind.i64 most), AV.v (Value.slice a1 l1 k1), AV.v (Value.slice a2 l2 k2), AV.os (0 : Nat) b3 n3 o3 (0 : Nat) (2 : Nat) M.length c3] (38 : Nat)) true, Blk.mk n2 (Cont.cells [AV.v (Value.int IntKind.i64 (0 : Int)), AV.v (Value.slice none (0 : Nat) (0 : Nat)), AV.v (Value.slice none (0 : Nat) (0 : Nat)), AV.v (Value.slice none (0 : Nat) (0 : Nat))] (38 : Nat)) true, Blk.mk x.n (Cont.lst (0 : Nat) (exI M r x.i).length [Col.strs (atP1 (exI M r x.i)), Col.ints IntKind.i64 (atP2 (exI M r x.i))] x.S (some (x.cap, (73 : TypeId)))) true] [Blk.mk n3 (Cont.lst o3 M.length [Col.strs (atP1 M), Col.ints IntKind.i64 (atP2 M)] S3 none) false, Blk.mk n1 (Cont.cells [AV.v (Value.int IntKind.i64 most), AV.v (Value.slice a1 l1 k1), AV.v (Value.slice a2 l2 k2), AV.os (0 : Nat) b3 n3 o3 (0 : Nat) (2 : Nat) M.length c3] (38 : Nat)) true, Blk.mk n2 (Cont.cells [AV.v (Value.int IntKind.i64 (0 : Int)), AV.v (Value.slice none (0 : Nat) (0 : Nat)), AV.v (Value.slice none (0 : Nat) (0 : Nat)), AV.v (Value.slice none (0 : Nat) (0 : Nat))] (38 : Nat)) true, Blk.mk x'.n (Cont.lst (0 : Nat) (exI M r x'.i).length [Col.strs (atP1 (exI M r x'.i)), Col.ints IntKind.i64 (atP2 (exI M r x'.i))] x'.S (some (x'.cap, (73 : TypeId)))) true]))
 (n1 = n1 ∧
 ∀ (n10 : Nat),
 n10 = n10 ∧
 x.n = x.n ∧
 (0 : Nat) = (0 : Nat) ∧
 (0 : Nat) = (0 : Nat) ∧
 (exI M r x.i).length ≤ (exI M r x.i).length ∧
 x.cap = x.cap ∧
 ((exI M r x.i).length = (0 : Nat) → x.cap = (0 : Nat) ∨ x.a = some (Addr.mk x.n (0 : Nat) none)) ∧
 ((exI M r x.i).length + (1 : Nat) ≤ (9223372036854775807 : Nat) ∧ ((exI M r x.i).length + (1 : Nat) + ((exI M r x.i).length + (1 : Nat)) / (4 : Nat) + (192 : Nat)) * (24 : Nat) ≤ (281474976710656 : Nat)) ∧
 ∀ (a' : Option Addr) (n12 n13 : Nat) (S' : List Nat),
 (exI M r x.i).length + (1 : Nat) ≤ n13 →
 emptyOk a' n12 ((exI M r x.i).length + (1 : Nat)) n13 →
 n1 = n1 ∧
 n1 = n1 ∧
 n2 = n2 ∧
 n2 = n2 ∧
 R (AV.tup [AV.agg [AV.v (Value.int IntKind.i64 most), AV.v (Value.slice a1 l1 k1), AV.v (Value.slice a2 l2 k2), AV.os (3 : Nat) a' n12 (0 : Nat) (0 : Nat) (2 : Nat) ((exI M r x.i).length + (1 : Nat)) n13], AV.v (Value.int IntKind.i64 (0 : Int))])
 [Blk.mk n3 (Cont.lst o3 M.length [Col.strs (atP1 M), Col.ints IntKind.i64 (atP2 M)] S3 none) false, Blk.mk n1 (Cont.cells [AV.v (Value.int IntKind.i64 most), AV.v (Value.slice a1 l1 k1), AV.v (Value.slice a2 l2 k2), AV.os (3 : Nat) a' n12 (0 : Nat) (0 : Nat) (2 : Nat) ((exI M r x.i).length + (1 : Nat)) n13] (38 : Nat)) true, Blk.mk n2 (Cont.cells [AV.v (Value.int IntKind.i64 most), AV.v (Value.slice a1 l1 k1), AV.v (Value.slice a2 l2 k2), AV.os (3 : Nat) a' n12 (0 : Nat) (0 : Nat) (2 : Nat) ((exI M r x.i).length + (1 : Nat)) n13] (38 : Nat)) true,
 Blk.mk n12
 (Cont.lst (0 : Nat) ((exI M r x.i).length + (1 : Nat))
 [Col.strs fun (i : Nat) =>
 if i < (exI M r x.i).length then atP1 (exI M r x.i) i
 else
 if i < (exI M r x.i).length + (1 : Nat) then
 match asS ((nth [AV.v (Value.string nm), AV.v (Value.int IntKind.i64 (↑l1 : Int))] (((0 : Nat) + (i - (exI M r x.i).length)) * (2 : Nat) + nat_lit 0)).getD (AV.v undef)) with
 | some x => x
 | none => ByteArray.empty
 else ByteArray.empty,
 Col.ints IntKind.i64 fun (i : Nat) =>
 if i < (exI M r x.i).length then atP2 (exI M r x.i) i
 else
 if i < (exI M r x.i).length + (1 : Nat) then
 match asI IntKind.i64 ((nth [AV.v (Value.string nm), AV.v (Value.int IntKind.i64 (↑l1 : Int))] (((0 : Nat) + (i - (exI M r x.i).length)) * (2 : Nat) + nat_lit 1)).getD (AV.v undef)) with
 | some x => x
 | none => (0 : Int)
 else (0 : Int)]
 S' (some (n13, (73 : Nat))))
 true,
 Blk.mk n10 (Cont.cells [AV.v (Value.string nm), AV.v (Value.int IntKind.i64 (↑l1 : Int))] (73 : Nat)) true])))))) : LC Try.prog 30 [.agg [.v (.int .i64 most), .v (.slice a1 l1 k1), .v (.slice a2 l2 k2), .os 0 b3 n3 o3 0 2 M.length c3], .v (.string nm)] [rMr n3 o3 M S3] R :=
  lc_of_exec (tbl := tbRT) tab_ok tbRT_ok mixed ((rmkJ M)) 2 _ Try.func30 rfl Try.ntmps30 (by decide) (by kernel_rfl) (Nat.le_of_ble_eq_true rfl) (@Eq.mpr (execN tab tbRT ((rmkJ M)) 2 Try.f30.ntmps [] none 0 (body Try.f30) (argsT [.agg [.v (.int .i64 most), .v (.slice a1 l1 k1), .v (.slice a2 l2 k2), .os 0 b3 n3 o3 0 2 M.length c3], .v (.string nm)] 0) [rMr n3 o3 M S3] (post Try.f30 tab (retK R))) _ (by kernel_rfl) h)


end Go.Proofs.Ytkjnkepdhbpnbaa

namespace Go.Eng
open Go.Sp

theorem atP1_cat (l m : List (ByteArray × Int)) (i : Nat) : atP1 (l ++ m) i = if i < l.length then atP1 l i else atP1 m (i - l.length) := by
  unfold atP1
  rw [List.getElem?_append]
  split <;> rfl
theorem atP2_cat (l m : List (ByteArray × Int)) (i : Nat) : atP2 (l ++ m) i = if i < l.length then atP2 l i else atP2 m (i - l.length) := by
  unfold atP2
  rw [List.getElem?_append]
  split <;> rfl

theorem atP1_last (l : List (ByteArray × Int)) (t : ByteArray) (v : Int) {j : Nat} (h : j < l.length + 1) : (if j < l.length then atP1 l j else if j < l.length + 1 then (match asS ((nth [AV.v (Value.string t), AV.v (Value.int IntKind.i64 v)] ((j - l.length) * 2 + 0)).getD (AV.v undef)) with | some x => x | none => ByteArray.empty) else ByteArray.empty) = atP1 (l ++ [(t, v)]) j := by
  rw [atP1_cat]
  split
  · rfl
  · obtain rfl : j = l.length := by omega
    rw [Nat.sub_self]
    rfl
theorem atP2_last (l : List (ByteArray × Int)) (t : ByteArray) (v : Int) {j : Nat} (h : j < l.length + 1) : (if j < l.length then atP2 l j else if j < l.length + 1 then (match asI IntKind.i64 ((nth [AV.v (Value.string t), AV.v (Value.int IntKind.i64 v)] ((j - l.length) * 2 + 1)).getD (AV.v undef)) with | some x => x | none => 0) else 0) = atP2 (l ++ [(t, v)]) j := by
  rw [atP2_cat]
  split
  · rfl
  · obtain rfl : j = l.length := by omega
    rw [Nat.sub_self]
    rfl

theorem rows2 {f f' : Nat → ByteArray} {g g' : Nat → Int} {j : Nat} (h1 : f j = f' j) (h2 : g j = g' j) : rowOf [.strs f, .ints .i64 g] j = rowOf [.strs f', .ints .i64 g'] j := by simp only [rowOf, Col.at, h1, h2]

/-- What a mark makes of the marks. -/
def badMk (M : List (ByteArray × Int)) (nm : ByteArray) (code : Int) : Prop := ((nm.size = 0 ∨ 20 < nm.size) ∧ code = 2) ∨ (¬ (nm.size = 0 ∨ 20 < nm.size) ∧ (∀ q, q < M.length → atP1 M q ≠ nm) ∧ 16 ≤ M.length ∧ code = 7)
def relMk (M M' : List (ByteArray × Int)) (nm : ByteArray) (p : Int) : Prop := ¬ (nm.size = 0 ∨ 20 < nm.size) ∧ ∃ r, relF M nm r ∧ (0 ≤ r ∨ M.length < 16) ∧ M' = exI M r M.length ++ [(nm, p)]

theorem exI_len (M : List (ByteArray × Int)) (r : Int) : ∀ i, (exI M r i).length ≤ i
  | 0 => Nat.le_refl _
  | i + 1 => by
    have := exI_len M r i
    rw [exI, List.length_append]
    split <;> simp <;> omega

end Go.Eng
namespace Go.Proofs.Ytkjnkepdhbpnbaa
open Go Go.Eng Go.Sp
set_option linter.unusedVariables false
set_option linter.unusedSimpArgs false

set_option maxHeartbeats 2000000 in
theorem rmk_lc (most : Int) (a1 a2 b3 : Option Addr) (l1 l2 k1 k2 n3 o3 c3 : Nat) (M : List (ByteArray × Int)) (S3 : List Nat) (nm : ByteArray) (hM : M.length ≤ 1048576) :
    LC Try.prog 30 [.agg [.v (.int .i64 most), .v (.slice a1 l1 k1), .v (.slice a2 l2 k2), .os 0 b3 n3 o3 0 2 M.length c3], .v (.string nm)] [rMr n3 o3 M S3] (fun z H' =>
      (∃ code, badMk M nm code ∧ z = .tup [.agg [.v (.int .i64 most), .v (.slice a1 l1 k1), .v (.slice a2 l2 k2), .os 0 b3 n3 o3 0 2 M.length c3], .v (.int .i64 code)]) ∨
      (∃ (M' : List (ByteArray × Int)) (a : Option Addr) (n k cap : Nat) (S : List Nat), relMk M M' nm (l1 : Int) ∧ z.den = (AV.tup [.agg [.v (.int .i64 most), .v (.slice a1 l1 k1), .v (.slice a2 l2 k2), .os k a n 0 0 2 M'.length cap], .v (.int .i64 0)]).den ∧ LeH H' [rM n 0 M' S])) :=
  rmk_vc most a1 a2 b3 l1 l2 k1 k2 n3 o3 c3 M S3 nm (by
    intro m1 m2
    simp only [true_and, and_true]
    refine br_intro (fun h0 => ?_) (fun h0 => br_intro (fun h20 => ?_) (fun h20 => ?_))
    · exact .inl ⟨2, .inl ⟨.inl (by rw [eqT.1 h0]; rfl), rfl⟩, rfl⟩
    · exact .inl ⟨2, .inl ⟨.inr (by have := of_decide_eq_true h20; omega), rfl⟩, rfl⟩
    have hnm : ¬ (nm.size = 0 ∨ 20 < nm.size) := by
      rintro (h | h)
      · have h0 := eqF.1 h0
        refine h0 ?_
        apply ByteArray.ext
        exact Array.eq_empty_of_size_eq_zero h
      · have := of_decide_eq_false h20; omega
    refine ⟨M, S3, false, rfl, rfl, hM, fun r hr => br_intro (fun hneg => br_intro (fun h16 => ?_) (fun h16 => ?_)) (fun hpos => ?_)⟩
    · have hneg := of_decide_eq_true hneg
      rcases hr with ⟨_, h⟩ | ⟨k, h, _⟩
      · exact .inl ⟨7, .inr ⟨hnm, h, by have := of_decide_eq_true h16; omega, rfl⟩, rfl⟩
      · omega
    all_goals
      have hok : 0 ≤ r ∨ M.length < 16 := by
        first
        | exact .inl (by have := of_decide_eq_false hpos; omega)
        | exact .inr (by have := of_decide_eq_false h16; omega)
      refine ⟨⟨⟨0, none, 0, 0, []⟩, ⟨Nat.zero_le _, fun _ => .inl rfl⟩, ⟨rfl, rfl⟩, LeH.trans (LeH.more (b := ⟨0, .lst 0 0 [.strs (atP1 []), .ints .i64 (atP2 [])] [] (some (0, 73)), true⟩) rfl fun w => lst_nil (.inr ⟨_, rfl, rfl⟩)) (leAt [0, 1, 2, 3] (by decide) ⟨LeB.refl _, LeB.refl _, LeB.refl _, LeB.refl _, trivial⟩)⟩, fun y hy => ?_⟩
      obtain ⟨y1, y2⟩ := hy
      have yl := exI_len M r y.i
      simp only [Int.toNat_natCast, Nat.zero_add]
      refine br_intro (fun hlt => br_intro (fun hne => ?_) (fun he => ?_)) (fun hge => ?_)
      · have hlt : y.i < M.length := by have := of_decide_eq_true hlt; omega
        have e : exI M r (y.i + 1) = exI M r y.i ++ [(atP1 M y.i, atP2 M y.i)] := by rw [exI, if_neg (bne_iff_ne.1 hne)]
        have el : (exI M r (y.i + 1)).length = (exI M r y.i).length + 1 := by rw [e]; simp
        refine ⟨⟨by omega, by omega⟩, hlt, fun n10 => ⟨Nat.le_refl _, y2, ⟨by omega, by omega⟩, fun a' n12 n13 S' g1 g2 => ⟨⟨y.i + 1, a', n12, n13, S'⟩, ⟨hlt, by show emptyOk a' n12 (exI M r (y.i + 1)).length n13; rw [el]; exact g2⟩, by show M.length - (y.i + 1) < _; omega, ⟨by rw [w64 (by omega)]; rfl, by simp only [AV.den, el]⟩, ?_⟩⟩⟩
        dsimp only
        rw [el]
        exact leAt [0, 1, 2, 3] (by decide) ⟨LeB.refl _, LeB.refl _, LeB.refl _, LeB.lst rfl (Nat.le_refl _) (fun h => h) (.inr rfl) (fun j hj => by rw [e]; exact rows2 (atP1_last (exI M r y.i) (atP1 M y.i) (atP2 M y.i) hj).symm (atP2_last (exI M r y.i) (atP1 M y.i) (atP2 M y.i) hj).symm), trivial⟩
      · have hlt : y.i < M.length := by have := of_decide_eq_true hlt; omega
        have e : exI M r (y.i + 1) = exI M r y.i := by rw [exI, if_pos (bne_eq_false_iff_eq.1 he), List.append_nil]
        refine ⟨⟨y.i + 1, y.a, y.n, y.cap, y.S⟩, ⟨hlt, by show emptyOk y.a y.n (exI M r (y.i + 1)).length y.cap; rw [e]; exact y2⟩, by show M.length - (y.i + 1) < _; omega, ⟨by rw [w64 (by omega)]; rfl, by simp only [e]⟩, ?_⟩
        dsimp only
        rw [e]
        exact LeH.refl _
      · have hge : y.i = M.length := by have := of_decide_eq_false hge; omega
        have el : (exI M r y.i ++ [(nm, (l1 : Int))]).length = (exI M r y.i).length + 1 := by simp
        intro n10
        refine ⟨Nat.le_refl _, y2, ⟨by omega, by omega⟩, fun a' n12 n13 S' g1 g2 => .inr ⟨exI M r y.i ++ [(nm, (l1 : Int))], a', n12, 3, n13, S', ⟨hnm, r, hr, hok, by rw [hge]⟩, by rw [el], ?_⟩⟩
        exact leAt [3] (by decide) ⟨LeB.lst rfl (by rw [el]; exact Nat.le_refl _) (fun h => h) (.inl rfl) (fun j hj => by rw [el] at hj; exact rows2 (atP1_last (exI M r y.i) nm l1 hj).symm (atP2_last (exI M r y.i) nm l1 hj).symm), trivial⟩)

end Go.Proofs.Ytkjnkepdhbpnbaa

namespace Go.Eng
open Go.Sp

def rmarkH : Handler := fun _ args H K =>
  match args with
  | [.agg [.v (.int .i64 q), .v (.slice a1 l1 k1), .v (.slice a2 l2 k2), .os i b3 n3 o3 0 2 l3 c3], .v (.string nm)] => ∃ (M : List (ByteArray × Int)) (S3 : List Nat) (w : Bool), nth H i = some ⟨n3, .lst o3 M.length [.strs (atP1 M), .ints .i64 (atP2 M)] S3 none, w⟩ ∧ l3 = M.length ∧ M.length ≤ 1048576 ∧
      (∀ code, badMk M nm code → K (.ret (.tup [.agg [.v (.int .i64 q), .v (.slice a1 l1 k1), .v (.slice a2 l2 k2), .os i b3 n3 o3 0 2 l3 c3], .v (.int .i64 code)])) H) ∧
      (∀ (M' : List (ByteArray × Int)) (a : Option Addr) (n cap : Nat) (S : List Nat), relMk M M' nm (l1 : Int) → K (.ret (.tup [.agg [.v (.int .i64 q), .v (.slice a1 l1 k1), .v (.slice a2 l2 k2), .os H.length a n 0 0 2 M'.length cap], .v (.int .i64 0)])) (H ++ [rM n 0 M' S]))
  | _ => False

end Go.Eng
namespace Go.Proofs.Ytkjnkepdhbpnbaa
open Go Go.Eng Go.Sp
set_option linter.unusedVariables false
set_option linter.unusedSimpArgs false

theorem rmark_ok : HOk Try.prog 30 rmarkH := HOk.of_make (enters_of (c := body Try.f30) Try.func30 rfl (by kernel_rfl)) fun rs args H K hk => by
  unfold rmarkH at hk
  split at hk
  · rename_i q a1 l1 k1 a2 l2 k2 i b3 n3 o3 l3 c3 nm
    obtain ⟨M, S3, w, h1, rfl, h2, hk1, hk2⟩ := hk
    refine ⟨[rMr n3 o3 M S3], [.agg [.v (.int .i64 q), .v (.slice a1 l1 k1), .v (.slice a2 l2 k2), .os 0 b3 n3 o3 0 2 M.length c3], .v (.string nm)], _, leAt (H := H) [i] (by simp) ?_, fun b hb => by cases List.mem_singleton.1 hb; rfl, rfl, rmk_lc q a1 a2 b3 l1 l2 k1 k2 n3 o3 c3 M S3 nm h2, fun z H' hz => ?_⟩
    · simp only [pickH, h1]
      exact ⟨LeB.lst rfl (Nat.le_refl _) (fun h => (by cases h)) (.inl rfl) (fun _ _ => rfl), trivial⟩
    · rcases hz with ⟨code, h3, rfl⟩ | ⟨M', a, n, k, cap, S, h3, h4, h5⟩
      · exact ⟨.tup [.agg [.v (.int .i64 q), .v (.slice a1 l1 k1), .v (.slice a2 l2 k2), .os i b3 n3 o3 0 2 M.length c3], .v (.int .i64 code)], [], rfl, leAt [] List.nodup_nil trivial, fun b hb => (by cases hb), by rw [List.append_nil]; exact hk1 code h3⟩
      · exact ⟨.tup [.agg [.v (.int .i64 q), .v (.slice a1 l1 k1), .v (.slice a2 l2 k2), .os H.length a n 0 0 2 M'.length cap], .v (.int .i64 0)], [rM n 0 M' S], by rw [h4]; rfl, h5, fun b hb => by cases List.mem_singleton.1 hb; rfl, hk2 M' a n cap S h3⟩
  · cases hk

end Go.Proofs.Ytkjnkepdhbpnbaa

