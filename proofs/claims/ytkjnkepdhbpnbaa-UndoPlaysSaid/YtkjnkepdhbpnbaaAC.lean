/- Undo: whether two lists are the same. -/
import Derived.Test.YtkjnkepdhbpnbaaS
import Derived.Test.YtkjnkepdhbpnbaaY8
namespace Go.Eng
open Go.Sp

def sameIJ (l m : List Int) : Nat → TT → HH → LI := fun _ T H => .inv Nat (fun i => ((5, .v (.int .i64 (i : Int))) :: keepT [0, 1] T, H)) (fun i => i ≤ l.length ∧ ∀ q, q < i → atI l q = atI m q) (fun i => l.length - i)
def sameSJ (l m : List ByteArray) : Nat → TT → HH → LI := fun _ T H => .inv Nat (fun i => ((5, .v (.int .i64 (i : Int))) :: keepT [0, 1] T, H)) (fun i => i ≤ l.length ∧ ∀ q, q < i → atS l q = atS m q) (fun i => l.length - i)

/-- Whether two known lists are the same. -/
def sameIO : Handler := fun _ args H K =>
  match args with
  | [.os i1 _ n1 0 0 1 k1 _, .os i2 _ n2 0 0 1 k2 _] => ∃ (l m : List Int) (S1 S2 : List Nat) (w1 w2 : Bool), nth H i1 = some (lI n1 l S1 w1) ∧ nth H i2 = some (lI n2 m S2 w2) ∧ k1 = l.length ∧ k2 = m.length ∧ [i1, i2].Nodup ∧ l.length ≤ 1048576 ∧ K (.ret (.v (.bool (decide (l = m))))) H
  | _ => False
def sameSO : Handler := fun _ args H K =>
  match args with
  | [.os i1 _ n1 0 0 1 k1 _, .os i2 _ n2 0 0 1 k2 _] => ∃ (l m : List ByteArray) (S1 S2 : List Nat) (w1 w2 : Bool), nth H i1 = some (lS n1 l S1 w1) ∧ nth H i2 = some (lS n2 m S2 w2) ∧ k1 = l.length ∧ k2 = m.length ∧ [i1, i2].Nodup ∧ l.length ≤ 1048576 ∧ K (.ret (.v (.bool (decide (l = m))))) H
  | _ => False

end Go.Eng
namespace Go.Proofs.Ytkjnkepdhbpnbaa
open Go Go.Eng Go.Sp
set_option linter.unusedVariables false
set_option linter.unusedSimpArgs false


set_option maxRecDepth 100000 in
theorem smi_vc (n1 n2 c1 c2 : Nat) (a1 a2 : Option Addr) (l m : List Int) (S1 S2 : List Nat) {R : AV → Prop} (h : (br ((↑l.length : Int) != (↑m.length : Int)) (R (AV.v (Value.bool false))) ((∃ (x : Nat), (x ≤ l.length ∧ ∀ (q : Nat), q < x → atI l q = atI m q) ∧ ((AV.v (Value.int IntKind.i64 (0 : Int))).den = (AV.v (Value.int IntKind.i64 (↑x : Int))).den ∧ (AV.os (0 : Nat) a1 n1 (0 : Nat) (0 : Nat) (1 : Nat) l.length c1).den = (AV.os (0 : Nat) a1 n1 (0 : Nat) (0 : Nat) (1 : Nat) l.length c1).den ∧ (AV.os (1 : Nat) a2 n2 (0 : Nat) (0 : Nat) (1 : Nat) m.length c2).den = (AV.os (1 : Nat) a2 n2 (0 : Nat) (0 : Nat) (1 : Nat) m.length c2).den ∧ True) ∧ LeH [Blk.mk n1 (Cont.lst (0 : Nat) l.length [Col.ints IntKind.i64 (atI l)] S1 none) false, Blk.mk n2 (Cont.lst (0 : Nat) m.length [Col.ints IntKind.i64 (atI m)] S2 none) false] [Blk.mk n1 (Cont.lst (0 : Nat) l.length [Col.ints IntKind.i64 (atI l)] S1 none) false, Blk.mk n2 (Cont.lst (0 : Nat) m.length [Col.ints IntKind.i64 (atI m)] S2 none) false]) ∧ ∀ (n1_1 : Nat), (n1_1 ≤ l.length ∧ ∀ (q : Nat), q < n1_1 → atI l q = atI m q) → br (decide ((↑n1_1 : Int) < (↑l.length : Int))) (((0 : Int) ≤ (↑n1_1 : Int) ∧ (↑n1_1 : Int) < (↑l.length : Int)) ∧ n1 = n1 ∧ (0 : Nat) = (0 : Nat) ∧ (0 : Nat) + (↑n1_1 : Int).toNat < l.length ∧ ((0 : Int) ≤ (↑n1_1 : Int) ∧ (↑n1_1 : Int) < (↑m.length : Int)) ∧ n2 = n2 ∧ (0 : Nat) = (0 : Nat) ∧ (0 : Nat) + (↑n1_1 : Int).toNat < m.length ∧ br (atI l ((0 : Nat) + (↑n1_1 : Int).toNat) != atI m ((0 : Nat) + (↑n1_1 : Int).toNat)) (R (AV.v (Value.bool false))) (∃ (x' : Nat), (x' ≤ l.length ∧ ∀ (q : Nat), q < x' → atI l q = atI m q) ∧ l.length - x' < l.length - n1_1 ∧ ((AV.v (Value.int IntKind.i64 (IntKind.i64.wrap ((↑n1_1 : Int) + (1 : Int))))).den = (AV.v (Value.int IntKind.i64 (↑x' : Int))).den ∧ (AV.os (0 : Nat) a1 n1 (0 : Nat) (0 : Nat) (1 : Nat) l.length c1).den = (AV.os (0 : Nat) a1 n1 (0 : Nat) (0 : Nat) (1 : Nat) l.length c1).den ∧ (AV.os (1 : Nat) a2 n2 (0 : Nat) (0 : Nat) (1 : Nat) m.length c2).den = (AV.os (1 : Nat) a2 n2 (0 : Nat) (0 : Nat) (1 : Nat) m.length c2).den ∧ True) ∧ LeH [Blk.mk n1 (Cont.lst (0 : Nat) l.length [Col.ints IntKind.i64 (atI l)] S1 none) false, Blk.mk n2 (Cont.lst (0 : Nat) m.length [Col.ints IntKind.i64 (atI m)] S2 none) false] [Blk.mk n1 (Cont.lst (0 : Nat) l.length [Col.ints IntKind.i64 (atI l)] S1 none) false, Blk.mk n2 (Cont.lst (0 : Nat) m.length [Col.ints IntKind.i64 (atI m)] S2 none) false])) (R (AV.v (Value.bool true)))))) : LC Try.prog 17 [.os 0 a1 n1 0 0 1 l.length c1, .os 1 a2 n2 0 0 1 m.length c2] [lI n1 l S1 false, lI n2 m S2 false] (fun z_ _ => R z_) :=
  lc_of_exec (tbl := []) tab_ok trivial mixed ((sameIJ l m)) 2 _ Try.func17 rfl Try.ntmps17 (by decide) (by kernel_rfl) (Nat.le_of_ble_eq_true rfl) (@Eq.mpr (execN tab [] ((sameIJ l m)) 2 Try.f17.ntmps [] none 0 (body Try.f17) (argsT [.os 0 a1 n1 0 0 1 l.length c1, .os 1 a2 n2 0 0 1 m.length c2] 0) [lI n1 l S1 false, lI n2 m S2 false] (post Try.f17 tab (retK (fun z_ _ => R z_)))) _ (by kernel_rfl) h)



set_option maxRecDepth 100000 in
theorem sms_vc (n1 n2 c1 c2 : Nat) (a1 a2 : Option Addr) (l m : List ByteArray) (S1 S2 : List Nat) {R : AV → Prop} (h : (br ((↑l.length : Int) != (↑m.length : Int)) (R (AV.v (Value.bool false))) ((∃ (x : Nat), (x ≤ l.length ∧ ∀ (q : Nat), q < x → atS l q = atS m q) ∧ ((AV.v (Value.int IntKind.i64 (0 : Int))).den = (AV.v (Value.int IntKind.i64 (↑x : Int))).den ∧ (AV.os (0 : Nat) a1 n1 (0 : Nat) (0 : Nat) (1 : Nat) l.length c1).den = (AV.os (0 : Nat) a1 n1 (0 : Nat) (0 : Nat) (1 : Nat) l.length c1).den ∧ (AV.os (1 : Nat) a2 n2 (0 : Nat) (0 : Nat) (1 : Nat) m.length c2).den = (AV.os (1 : Nat) a2 n2 (0 : Nat) (0 : Nat) (1 : Nat) m.length c2).den ∧ True) ∧ LeH [Blk.mk n1 (Cont.lst (0 : Nat) l.length [Col.strs (atS l)] S1 none) false, Blk.mk n2 (Cont.lst (0 : Nat) m.length [Col.strs (atS m)] S2 none) false] [Blk.mk n1 (Cont.lst (0 : Nat) l.length [Col.strs (atS l)] S1 none) false, Blk.mk n2 (Cont.lst (0 : Nat) m.length [Col.strs (atS m)] S2 none) false]) ∧ ∀ (n1_1 : Nat), (n1_1 ≤ l.length ∧ ∀ (q : Nat), q < n1_1 → atS l q = atS m q) → br (decide ((↑n1_1 : Int) < (↑l.length : Int))) (((0 : Int) ≤ (↑n1_1 : Int) ∧ (↑n1_1 : Int) < (↑l.length : Int)) ∧ n1 = n1 ∧ (0 : Nat) = (0 : Nat) ∧ (0 : Nat) + (↑n1_1 : Int).toNat < l.length ∧ ((0 : Int) ≤ (↑n1_1 : Int) ∧ (↑n1_1 : Int) < (↑m.length : Int)) ∧ n2 = n2 ∧ (0 : Nat) = (0 : Nat) ∧ (0 : Nat) + (↑n1_1 : Int).toNat < m.length ∧ br (!eqS (atS l ((0 : Nat) + (↑n1_1 : Int).toNat)) (atS m ((0 : Nat) + (↑n1_1 : Int).toNat))) (R (AV.v (Value.bool false))) (∃ (x' : Nat), (x' ≤ l.length ∧ ∀ (q : Nat), q < x' → atS l q = atS m q) ∧ l.length - x' < l.length - n1_1 ∧ ((AV.v (Value.int IntKind.i64 (IntKind.i64.wrap ((↑n1_1 : Int) + (1 : Int))))).den = (AV.v (Value.int IntKind.i64 (↑x' : Int))).den ∧ (AV.os (0 : Nat) a1 n1 (0 : Nat) (0 : Nat) (1 : Nat) l.length c1).den = (AV.os (0 : Nat) a1 n1 (0 : Nat) (0 : Nat) (1 : Nat) l.length c1).den ∧ (AV.os (1 : Nat) a2 n2 (0 : Nat) (0 : Nat) (1 : Nat) m.length c2).den = (AV.os (1 : Nat) a2 n2 (0 : Nat) (0 : Nat) (1 : Nat) m.length c2).den ∧ True) ∧ LeH [Blk.mk n1 (Cont.lst (0 : Nat) l.length [Col.strs (atS l)] S1 none) false, Blk.mk n2 (Cont.lst (0 : Nat) m.length [Col.strs (atS m)] S2 none) false] [Blk.mk n1 (Cont.lst (0 : Nat) l.length [Col.strs (atS l)] S1 none) false, Blk.mk n2 (Cont.lst (0 : Nat) m.length [Col.strs (atS m)] S2 none) false])) (R (AV.v (Value.bool true)))))) : LC Try.prog 20 [.os 0 a1 n1 0 0 1 l.length c1, .os 1 a2 n2 0 0 1 m.length c2] [lS n1 l S1 false, lS n2 m S2 false] (fun z_ _ => R z_) :=
  lc_of_exec (tbl := []) tab_ok trivial mixed ((sameSJ l m)) 2 _ Try.func20 rfl Try.ntmps20 (by decide) (by kernel_rfl) (Nat.le_of_ble_eq_true rfl) (@Eq.mpr (execN tab [] ((sameSJ l m)) 2 Try.f20.ntmps [] none 0 (body Try.f20) (argsT [.os 0 a1 n1 0 0 1 l.length c1, .os 1 a2 n2 0 0 1 m.length c2] 0) [lS n1 l S1 false, lS n2 m S2 false] (post Try.f20 tab (retK (fun z_ _ => R z_)))) _ (by kernel_rfl) h)


end Go.Proofs.Ytkjnkepdhbpnbaa

