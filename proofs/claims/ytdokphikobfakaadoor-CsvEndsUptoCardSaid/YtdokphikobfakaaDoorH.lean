/- Csv: the document's needs, and how wide rows are. -/
import Derived.Test.YtdokphikobfakaaDoorG
import Derived.Test.YtdokphikobfakaaDoorEngQ
namespace Go.Eng
open Go.Sp

/-- What is known at the head of the document's loop over a field. -/
def rneJ (s : ByteArray) (c : Int) : Nat → TT → HH → LI := fun _ T H => .inv Nat (fun i => ((7, .v (.int .i64 (i : Int))) :: keepT [0, 1, 2] T, H)) (fun i => i ≤ s.size ∧ ∀ q, q < i → ¬ (byteAt s q = c ∨ byteAt s q = 10 ∨ byteAt s q = 13 ∨ byteAt s q = 34)) (fun i => s.size - i)

/-- How wide the first rows are. -/
def wideN (g : Nat → RW) : Nat → Nat
  | 0 => 0
  | i + 1 => max (wideN g i) (g i).len

/-- A cell put anew. -/
def setC (id : Nat) (v : AV) (H : HH) : HH :=
  match nth H id with
  | some ⟨n, .cells _ ty, o⟩ => H.set id ⟨n, .cells [v] ty, o⟩
  | _ => H

def rwiJ (L : Nat) (g : Nat → RW) : Nat → TT → HH → LI := fun _ T H => .inv Nat (fun i => ((3, .v (.int .i64 (wideN g i : Int))) :: (4, .v (.int .i64 (i : Int))) :: keepT [0] T, H)) (fun i => i ≤ L) (fun i => L - i)

def cwiJ (L : Nat) (g : Nat → RW) : Nat → TT → HH → LI := fun _ T H =>
  match T.get 3 with
  | some (.ptr id _ _) => .inv Nat (fun i => ((10, .v (.int .i64 (i : Int))) :: keepT [3, 4, 8, 9] T, setC id (.v (.int .i64 (wideN g i : Int))) H)) (fun i => i ≤ L) (fun i => L - i)
  | _ => .unroll 0
end Go.Eng
namespace Go.Proofs.YtdokphikobfakaaDoor
open Go Go.Eng Go.Sp
set_option linter.unusedVariables false
set_option linter.unusedSimpArgs false


set_option maxRecDepth 100000 in
theorem rneeds_vc (s : ByteArray) (alone : Bool) (c : Int) {R : AV → Prop} (h : ((∃ (x : Nat), (x ≤ s.size ∧ ∀ (q : Nat), q < x → ¬(byteAt s q = c ∨ byteAt s q = (10 : Int) ∨ byteAt s q = (13 : Int) ∨ byteAt s q = (34 : Int))) ∧ ((AV.v (Value.int IntKind.i64 (0 : Int))).den = (AV.v (Value.int IntKind.i64 (↑x : Int))).den ∧ (AV.v (Value.string s)).den = (AV.v (Value.string s)).den ∧ (AV.v (Value.bool alone)).den = (AV.v (Value.bool alone)).den ∧ (AV.v (Value.int IntKind.u8 c)).den = (AV.v (Value.int IntKind.u8 c)).den ∧ True) ∧ LeH [] []) ∧ ∀ (n1 : Nat), (n1 ≤ s.size ∧ ∀ (q : Nat), q < n1 → ¬(byteAt s q = c ∨ byteAt s q = (10 : Int) ∨ byteAt s q = (13 : Int) ∨ byteAt s q = (34 : Int))) → br (decide ((↑n1 : Int) < (↑s.size : Int))) (((0 : Int) ≤ (↑n1 : Int) ∧ (↑n1 : Int) < (↑s.size : Int)) ∧ br (byteAt s (↑n1 : Int).toNat == c) (R (AV.v (Value.bool true))) (((0 : Int) ≤ (↑n1 : Int) ∧ (↑n1 : Int) < (↑s.size : Int)) ∧ br (byteAt s (↑n1 : Int).toNat == (10 : Int)) (R (AV.v (Value.bool true))) (((0 : Int) ≤ (↑n1 : Int) ∧ (↑n1 : Int) < (↑s.size : Int)) ∧ br (byteAt s (↑n1 : Int).toNat == (13 : Int)) (R (AV.v (Value.bool true))) (((0 : Int) ≤ (↑n1 : Int) ∧ (↑n1 : Int) < (↑s.size : Int)) ∧ br (byteAt s (↑n1 : Int).toNat == (34 : Int)) (R (AV.v (Value.bool true))) (∃ (x' : Nat), (x' ≤ s.size ∧ ∀ (q : Nat), q < x' → ¬(byteAt s q = c ∨ byteAt s q = (10 : Int) ∨ byteAt s q = (13 : Int) ∨ byteAt s q = (34 : Int))) ∧ s.size - x' < s.size - n1 ∧ ((AV.v (Value.int IntKind.i64 (IntKind.i64.wrap ((↑n1 : Int) + (1 : Int))))).den = (AV.v (Value.int IntKind.i64 (↑x' : Int))).den ∧ (AV.v (Value.string s)).den = (AV.v (Value.string s)).den ∧ (AV.v (Value.bool alone)).den = (AV.v (Value.bool alone)).den ∧ (AV.v (Value.int IntKind.u8 c)).den = (AV.v (Value.int IntKind.u8 c)).den ∧ True) ∧ LeH [] []))))) (br alone (R (AV.v (Value.bool (eqS s (ByteArray.mk #[]))))) (R (AV.v (Value.bool false)))))) : LC Tryd.prog 22 [.v (.string s), .v (.bool alone), .v (.int .u8 c)] [] (fun z_ _ => R z_) :=
  lc_of_exec (tbl := []) tab_ok trivial mixed ((rneJ s c)) 2 _ Tryd.func22 rfl Tryd.ntmps22 (by decide) (by kernel_rfl) (Nat.le_of_ble_eq_true rfl) (@Eq.mpr (execN tab [] ((rneJ s c)) 2 Tryd.f22.ntmps [] none 0 (body Tryd.f22) (argsT [.v (.string s), .v (.bool alone), .v (.int .u8 c)] 0) [] (post Tryd.f22 tab (retK (fun z_ _ => R z_)))) _ (by kernel_rfl) h)



set_option maxRecDepth 100000 in
theorem rwide_vc (a : Option Addr) (n o L cap : Nat) (g : Nat → RW) (F : Nat → Nat → ByteArray) (S : List Nat) {R : AV → Prop} (h : ((∃ (x : Nat), x ≤ L ∧ ((AV.v (Value.int IntKind.i64 (0 : Int))).den = (AV.v (Value.int IntKind.i64 (↑(wideN g x) : Int))).den ∧ (AV.v (Value.int IntKind.i64 (0 : Int))).den = (AV.v (Value.int IntKind.i64 (↑x : Int))).den ∧ (AV.os (0 : Nat) a n o (0 : Nat) (1 : Nat) L cap).den = (AV.os (0 : Nat) a n o (0 : Nat) (1 : Nat) L cap).den ∧ True) ∧ LeH [Blk.mk n (Cont.texts o L g F S false) false] [Blk.mk n (Cont.texts o L g F S false) false]) ∧ ∀ (n1 : Nat), n1 ≤ L → br (decide ((↑n1 : Int) < (↑L : Int))) (((0 : Int) ≤ (↑n1 : Int) ∧ (↑n1 : Int) < (↑L : Int)) ∧ n = n ∧ o = o ∧ (0 : Nat) + (↑n1 : Int).toNat < L ∧ ∃ (x' : Nat), x' ≤ L ∧ L - x' < L - n1 ∧ ((AV.v (Value.int IntKind.i64 (if (↑(g ((0 : Nat) + (↑n1 : Int).toNat)).len : Int) > (↑(wideN g n1) : Int) then (↑(g ((0 : Nat) + (↑n1 : Int).toNat)).len : Int) else (↑(wideN g n1) : Int)))).den = (AV.v (Value.int IntKind.i64 (↑(wideN g x') : Int))).den ∧ (AV.v (Value.int IntKind.i64 (IntKind.i64.wrap ((↑n1 : Int) + (1 : Int))))).den = (AV.v (Value.int IntKind.i64 (↑x' : Int))).den ∧ (AV.os (0 : Nat) a n o (0 : Nat) (1 : Nat) L cap).den = (AV.os (0 : Nat) a n o (0 : Nat) (1 : Nat) L cap).den ∧ True) ∧ LeH [Blk.mk n (Cont.texts o L g F S false) false] [Blk.mk n (Cont.texts o L g F S false) false]) (R (AV.v (Value.int IntKind.i64 (↑(wideN g n1) : Int)))))) : LC Tryd.prog 11 [.os 0 a n o 0 1 L cap] [⟨n, .texts o L g F S false, false⟩] (fun z_ _ => R z_) :=
  lc_of_exec (tbl := []) tab_ok trivial mixed ((rwiJ L g)) 2 _ Tryd.func11 rfl Tryd.ntmps11 (by decide) (by kernel_rfl) (Nat.le_of_ble_eq_true rfl) (@Eq.mpr (execN tab [] ((rwiJ L g)) 2 Tryd.f11.ntmps [] none 0 (body Tryd.f11) (argsT [.os 0 a n o 0 1 L cap] 0) [⟨n, .texts o L g F S false, false⟩] (post Tryd.f11 tab (retK (fun z_ _ => R z_)))) _ (by kernel_rfl) h)



def wide1I : Handler := inlH tab [] noinv 2 Tryd.f23 2

set_option maxRecDepth 100000 in
theorem wide1_ok : HOk Tryd.prog 23 wide1I :=
  inl_ok (tbl := []) tab_ok trivial mixed noinv 2 _ 2 Tryd.func23 rfl Tryd.ntmps23 (by decide) (by kernel_rfl) (Nat.le_of_ble_eq_true rfl)


def tg : Tbl := (23, .gen wide1I) :: []

theorem tg_ok : TblOk Tryd.prog tg := ⟨wide1_ok, trivial⟩


set_option maxRecDepth 100000 in
theorem cwide_vc (a : Option Addr) (n o L cap : Nat) (g : Nat → RW) (F : Nat → Nat → ByteArray) (S : List Nat) {R : AV → Prop} (h : (∀ (n1 : Nat), n1 = n1 ∧ (∃ (x : Nat), x ≤ L ∧ ((AV.v (Value.int IntKind.i64 (0 : Int))).den = (AV.v (Value.int IntKind.i64 (↑x : Int))).den ∧ (AV.ptr (1 : Nat) n1 (0 : Nat)).den = (AV.ptr (1 : Nat) n1 (0 : Nat)).den ∧ (AV.fn (Fn.func (23 : Nat)) [] [AV.ptr (1 : Nat) n1 (0 : Nat)]).den = (AV.fn (Fn.func (23 : Nat)) [] [AV.ptr (1 : Nat) n1 (0 : Nat)]).den ∧ (AV.os (0 : Nat) a n o (0 : Nat) (1 : Nat) L cap).den = (AV.os (0 : Nat) a n o (0 : Nat) (1 : Nat) L cap).den ∧ (AV.v (Value.int IntKind.i64 (↑L : Int))).den = (AV.v (Value.int IntKind.i64 (↑L : Int))).den ∧ True) ∧ LeH [Blk.mk n (Cont.texts o L g F S false) false, Blk.mk n1 (Cont.cells [AV.v (Value.int IntKind.i64 (0 : Int))] (3 : Nat)) true] [Blk.mk n (Cont.texts o L g F S false) false, Blk.mk n1 (Cont.cells [AV.v (Value.int IntKind.i64 (↑(wideN g x) : Int))] (3 : Nat)) true]) ∧ ∀ (n2 : Nat), n2 ≤ L → br (decide ((↑n2 : Int) < (↑L : Int))) (((0 : Int) ≤ (↑n2 : Int) ∧ (↑n2 : Int) < (↑L : Int)) ∧ n = n ∧ o = o ∧ (0 : Nat) + (↑n2 : Int).toNat < L ∧ n1 = n1 ∧ n1 = n1 ∧ ∃ (x' : Nat), x' ≤ L ∧ L - x' < L - n2 ∧ ((AV.v (Value.int IntKind.i64 (IntKind.i64.wrap ((↑n2 : Int) + (1 : Int))))).den = (AV.v (Value.int IntKind.i64 (↑x' : Int))).den ∧ (AV.ptr (1 : Nat) n1 (0 : Nat)).den = (AV.ptr (1 : Nat) n1 (0 : Nat)).den ∧ (AV.fn (Fn.func (23 : Nat)) [] [AV.ptr (1 : Nat) n1 (0 : Nat)]).den = (AV.fn (Fn.func (23 : Nat)) [] [AV.ptr (1 : Nat) n1 (0 : Nat)]).den ∧ (AV.os (0 : Nat) a n o (0 : Nat) (1 : Nat) L cap).den = (AV.os (0 : Nat) a n o (0 : Nat) (1 : Nat) L cap).den ∧ (AV.v (Value.int IntKind.i64 (↑L : Int))).den = (AV.v (Value.int IntKind.i64 (↑L : Int))).den ∧ True) ∧ LeH [Blk.mk n (Cont.texts o L g F S false) false, Blk.mk n1 (Cont.cells [AV.v (Value.int IntKind.i64 (if (↑(g ((0 : Nat) + (↑n2 : Int).toNat)).len : Int) > (↑(wideN g n2) : Int) then (↑(g ((0 : Nat) + (↑n2 : Int).toNat)).len : Int) else (↑(wideN g n2) : Int)))] (3 : Nat)) true] [Blk.mk n (Cont.texts o L g F S false) false, Blk.mk n1 (Cont.cells [AV.v (Value.int IntKind.i64 (↑(wideN g x') : Int))] (3 : Nat)) true]) (n1 = n1 ∧ R (AV.v (Value.int IntKind.i64 (↑(wideN g n2) : Int)))))) : LC Tryd.prog 10 [.os 0 a n o 0 1 L cap] [⟨n, .texts o L g F S false, false⟩] (fun z_ _ => R z_) :=
  lc_of_exec (tbl := tg) tab_ok tg_ok mixed ((cwiJ L g)) 2 _ Tryd.func10 rfl Tryd.ntmps10 (by decide) (by kernel_rfl) (Nat.le_of_ble_eq_true rfl) (@Eq.mpr (execN tab tg ((cwiJ L g)) 2 Tryd.f10.ntmps [] none 0 (body Tryd.f10) (argsT [.os 0 a n o 0 1 L cap] 0) [⟨n, .texts o L g F S false, false⟩] (post Tryd.f10 tab (retK (fun z_ _ => R z_)))) _ (by kernel_rfl) h)

end Go.Proofs.YtdokphikobfakaaDoor

