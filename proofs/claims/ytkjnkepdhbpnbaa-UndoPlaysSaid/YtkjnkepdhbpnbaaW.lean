/- Undo: To. -/
import Derived.Test.YtkjnkepdhbpnbaaL
import Derived.Test.YtkjnkepdhbpnbaaEngN
namespace Go.Eng
open Go.Sp

/-- A history's place. -/
def atH (p : Nat) (H : HH) : HH :=
  match H with
  | ⟨n, .cells [m, _, a, b] t, o⟩ :: R => ⟨n, .cells [m, .v (.int .i64 (p : Int)), a, b] t, o⟩ :: R
  | _ => H

/-- How far To is. -/
structure TX where
  p : Nat
  k : Nat
  n : Nat
  cap : Nat
  g : Nat → Int

/-- On the way down. -/
def toD (a0 r : Nat) (g : Nat → Int) (to : Int) (x : TX) : Prop := x.p + x.k = a0 ∧ to ≤ (x.p : Int) ∧ x.k ≤ x.cap ∧ 1 ≤ x.k ∧ ∀ j, j < x.k → x.g j = g (r + (a0 - 1 - j))
/-- On the way up. -/
def toU (a0 r : Nat) (g : Nat → Int) (to : Int) (x : TX) : Prop := x.p = a0 + x.k ∧ (x.p : Int) ≤ to ∧ x.k ≤ x.cap ∧ 1 ≤ x.k ∧ ∀ j, j < x.k → x.g j = g (r + (a0 + j))

/-- What is known at the heads of To's loops. -/
def toJ (a0 r : Nat) (g : Nat → Int) : Nat → TT → HH → LI := fun _ T H =>
  match T.get 8, T.get 6 with
  | some (.v (.slice none _ _)), some (.v (.int _ to)) =>
    .shapes [
      { X := Unit, St := fun _ => ((8, .v (.slice none 0 0)) :: keepT [0, 6] T, H), I := fun _ => True, μ := fun _ => ((a0 : Int) - to).natAbs },
      { X := TX, St := fun x => ((8, .sl H.length x.n 0 1 x.k x.cap) :: keepT [0, 6] T, atH x.p H ++ [⟨x.n, .rows x.cap [.ints .i64 x.g] 3, true⟩]), I := (match T.get 32 with | none => toD a0 r g to | some _ => toU a0 r g to), μ := fun x => ((x.p : Int) - to).natAbs }]
  | _, _ => .unroll 1

/-- At another place. -/
def HS.goTo (s : HS) (p : Nat) : HS := { s with at_ := p }

def toH : Handler := fun _ args H K =>
  match args with
  | [.ptr id n 0, .v (.string nm)] => ∃ (s : HS) (S : List Nat), n = s.hn ∧ nth H id = some (hH s S) ∧ s.ok ∧ ∀ S',
    ((∀ (v : Int) (b : Nat), ((nm, v), b) ∉ s.es) → K (.ret (.tup [.v (.slice none 0 0), .v (.int .i64 8)])) (H.set id (hH s S'))) ∧
    (∀ (v : Nat) (b : Nat), ((nm, (v : Int)), b) ∈ s.es →
      (v = s.at_ → K (.ret (.tup [.v (.slice none 0 0), .v (.int .i64 0)])) (H.set id (hH s S'))) ∧
      (v < s.at_ → ∀ (n cap : Nat) (g : Nat → Int), s.at_ - v ≤ cap → (∀ j, j < s.at_ - v → g j = s.g (s.at_ - 1 - j)) → K (.ret (.tup [.sl H.length n 0 1 (s.at_ - v) cap, .v (.int .i64 0)])) (H.set id (hH (s.goTo v) S') ++ [⟨n, .rows cap [.ints .i64 g] 3, true⟩])) ∧
      (s.at_ < v → v ≤ s.len → ∀ (n cap : Nat) (g : Nat → Int), v - s.at_ ≤ cap → (∀ j, j < v - s.at_ → g j = s.g (s.at_ + j)) → K (.ret (.tup [.sl H.length n 0 1 (v - s.at_) cap, .v (.int .i64 0)])) (H.set id (hH (s.goTo v) S') ++ [⟨n, .rows cap [.ints .i64 g] 3, true⟩])))
  | _ => False

theorem HS.goTo_ok {s : HS} (h : s.ok) {p : Nat} (hp : p ≤ s.len) : (s.goTo p).ok := ⟨h.m0, h.m1, hp, h.lm, h.keys, h.mark, h.clk⟩

end Go.Eng
namespace Go.Proofs.Ytkjnkepdhbpnbaa
open Go Go.Eng Go.Sp
set_option linter.unusedVariables false
set_option linter.unusedSimpArgs false

def tbT : Tbl := (4294967295, .ext mergeFlag) :: (25, .gen madeI) :: (15, .gen backI) :: (16, .gen againI) :: []

theorem tbT_ok : TblOk Try.prog tbT := ⟨flag_ok, made_ok, back_ok, again_ok, trivial⟩


set_option maxRecDepth 100000 in
theorem to0_vc (hn mn : Nat) (m : Int) (es : MK) (clock : Nat) (nm : ByteArray) {R : AV → HH → Prop} (h : (hn = hn ∧ hn = hn ∧ mn = mn ∧ (∀ (a : ByteArray × Int) (n2 : Nat), (a, n2) ∈ es → br (eqS nm a.fst) (hn = hn ∧ br (decide ((0 : Int) > a.snd)) (hn = hn ∧ hn = hn ∧ ∀ (n4 : Nat), n4 = n4 ∧ ((1 : Nat) ≤ (9223372036854775807 : Nat) ∧ (1544 : Nat) ≤ (281474976710656 : Nat)) ∧ ∀ (n5 n6 : Nat), (1 : Nat) ≤ n6 → False) (hn = hn ∧ br (decide ((0 : Int) < a.snd)) (hn = hn ∧ hn = hn ∧ hn = hn ∧ ∀ (n4 : Nat), n4 = n4 ∧ ((1 : Nat) ≤ (9223372036854775807 : Nat) ∧ (1544 : Nat) ≤ (281474976710656 : Nat)) ∧ ∀ (n5 n6 : Nat), (1 : Nat) ≤ n6 → False) (R (AV.tup [AV.v (Value.slice none (0 : Nat) (0 : Nat)), AV.v (Value.int IntKind.i64 (0 : Int))]) [Blk.mk hn (Cont.cells [AV.v (Value.int IntKind.i64 m), AV.v (Value.int IntKind.i64 (0 : Int)), AV.v (Value.slice none (0 : Nat) (0 : Nat)), AV.mp (1 : Nat) mn] (55 : Nat)) true, Blk.mk mn (Cont.mape (ByteArray × Int) kyM vlM mkM es clock) true]))) True) ∧ ((∀ (a : ByteArray × Int) (b : Nat), (a, b) ∈ es → eqS nm a.fst = false) → R (AV.tup [AV.v (Value.slice none (0 : Nat) (0 : Nat)), AV.v (Value.int IntKind.i64 (8 : Int))]) [Blk.mk hn (Cont.cells [AV.v (Value.int IntKind.i64 m), AV.v (Value.int IntKind.i64 (0 : Int)), AV.v (Value.slice none (0 : Nat) (0 : Nat)), AV.mp (1 : Nat) mn] (55 : Nat)) true, Blk.mk mn (Cont.mape (ByteArray × Int) kyM vlM mkM es clock) true]))) : LC Try.prog 24 [.ptr 0 hn 0, .v (.string nm)] [⟨hn, .cells [.v (.int .i64 m), .v (.int .i64 0), .v (.slice none 0 0), .mp 1 mn] 55, true⟩, ⟨mn, .mape (ByteArray × Int) kyM vlM mkM es clock, true⟩] R :=
  lc_of_exec (tbl := tbT) tab_ok tbT_ok mixed (fun _ _ _ => .unroll 1) 2 _ Try.func24 rfl Try.ntmps24 (by decide) (by kernel_rfl) (Nat.le_of_ble_eq_true rfl) (@Eq.mpr (execN tab tbT (fun _ _ _ => .unroll 1) 2 Try.f24.ntmps [] none 0 (body Try.f24) (argsT [.ptr 0 hn 0, .v (.string nm)] 0) [⟨hn, .cells [.v (.int .i64 m), .v (.int .i64 0), .v (.slice none 0 0), .mp 1 mn] 55, true⟩, ⟨mn, .mape (ByteArray × Int) kyM vlM mkM es clock, true⟩] (post Try.f24 tab (retK R))) _ (by kernel_rfl) h)



set_option maxRecDepth 100000 in
theorem to1_vc (hn mn an : Nat) (m : Int) (at_ : Nat) (es : MK) (clock : Nat) (r len cap N : Nat) (g : Nat → Int) (nm : ByteArray) {R : AV → HH → Prop} (h : (hn = hn ∧
 hn = hn ∧
 mn = mn ∧
 (∀ (a : ByteArray × Int) (n2 : Nat),
 (a, n2) ∈ es →
 br (eqS nm a.fst)
 (((∃ (x : Unit), True ∧ ((AV.v (Value.slice none (0 : Nat) (0 : Nat))).den = (AV.v (Value.slice none (0 : Nat) (0 : Nat))).den ∧ (AV.ptr (0 : Nat) hn (0 : Nat)).den = (AV.ptr (0 : Nat) hn (0 : Nat)).den ∧ (AV.v (Value.int IntKind.i64 a.snd)).den = (AV.v (Value.int IntKind.i64 a.snd)).den ∧ True) ∧ LeH [Blk.mk hn (Cont.cells [AV.v (Value.int IntKind.i64 m), AV.v (Value.int IntKind.i64 (↑at_ : Int)), AV.sl (2 : Nat) an r (1 : Nat) len cap, AV.mp (1 : Nat) mn] (55 : Nat)) true, Blk.mk mn (Cont.mape (ByteArray × Int) kyM vlM mkM es clock) true, Blk.mk an (Cont.rows N [Col.ints IntKind.i64 g] (3 : TypeId)) true] [Blk.mk hn (Cont.cells [AV.v (Value.int IntKind.i64 m), AV.v (Value.int IntKind.i64 (↑at_ : Int)), AV.sl (2 : Nat) an r (1 : Nat) len cap, AV.mp (1 : Nat) mn] (55 : Nat)) true, Blk.mk mn (Cont.mape (ByteArray × Int) kyM vlM mkM es clock) true, Blk.mk an (Cont.rows N [Col.ints IntKind.i64 g] (3 : TypeId)) true]) ∨ ∃ (x : TX), (x.p + x.k = at_ ∧ a.snd ≤ (↑x.p : Int) ∧ x.k ≤ x.cap ∧ (1 : Nat) ≤ x.k ∧ ∀ (n5 : Nat), n5 < x.k → x.5 n5 = g (r + (at_ - (1 : Nat) - n5))) ∧ ((AV.v (Value.slice none (0 : Nat) (0 : Nat))).den = (AV.sl (3 : Nat) x.n (0 : Nat) (1 : Nat) x.k x.cap).den ∧ (AV.ptr (0 : Nat) hn (0 : Nat)).den = (AV.ptr (0 : Nat) hn (0 : Nat)).den ∧ (AV.v (Value.int IntKind.i64 a.snd)).den = (AV.v (Value.int IntKind.i64 a.snd)).den ∧ True) ∧ LeH [Blk.mk hn (Cont.cells [AV.v (Value.int IntKind.i64 m), AV.v (Value.int IntKind.i64 (↑at_ : Int)), AV.sl (2 : Nat) an r (1 : Nat) len cap, AV.mp (1 : Nat) mn] (55 : Nat)) true, Blk.mk mn (Cont.mape (ByteArray × Int) kyM vlM mkM es clock) true, Blk.mk an (Cont.rows N [Col.ints IntKind.i64 g] (3 : TypeId)) true] [Blk.mk hn (Cont.cells [AV.v (Value.int IntKind.i64 m), AV.v (Value.int IntKind.i64 (↑x.p : Int)), AV.sl (2 : Nat) an r (1 : Nat) len cap, AV.mp (1 : Nat) mn] (55 : Nat)) true, Blk.mk mn (Cont.mape (ByteArray × Int) kyM vlM mkM es clock) true, Blk.mk an (Cont.rows N [Col.ints IntKind.i64 g] (3 : TypeId)) true, Blk.mk x.n (Cont.rows x.cap [Col.ints IntKind.i64 x.g] (3 : TypeId)) true]) ∧
 (∀ (x : Unit),
 True →
 hn = hn ∧
 br (decide ((↑at_ : Int) > a.snd))
 (hn = hn ∧
 hn = hn ∧
 br ((↑at_ : Int) == (0 : Int))
 (∀ (n6 : Nat),
 n6 = n6 ∧
 ((1 : Nat) ≤ (9223372036854775807 : Nat) ∧ (1544 : Nat) ≤ (281474976710656 : Nat)) ∧
 ∀ (n7 n8 : Nat),
 (1 : Nat) ≤ n8 →
 (∃ (x : Unit),
 True ∧
 ((↑at_ : Int) - a.snd).natAbs < ((↑at_ : Int) - a.snd).natAbs ∧
 ((AV.sl (4 : Nat) n7 (0 : Nat) (1 : Nat) (1 : Nat) n8).den = (AV.v (Value.slice none (0 : Nat) (0 : Nat))).den ∧ (AV.ptr (0 : Nat) hn (0 : Nat)).den = (AV.ptr (0 : Nat) hn (0 : Nat)).den ∧ (AV.v (Value.int IntKind.i64 a.snd)).den = (AV.v (Value.int IntKind.i64 a.snd)).den ∧ True) ∧
 LeH
 [Blk.mk hn (Cont.cells [AV.v (Value.int IntKind.i64 m), AV.v (Value.int IntKind.i64 (↑at_ : Int)), AV.sl (2 : Nat) an r (1 : Nat) len cap, AV.mp (1 : Nat) mn] (55 : Nat)) true, Blk.mk mn (Cont.mape (ByteArray × Int) kyM vlM mkM es clock) true, Blk.mk an (Cont.rows N [Col.ints IntKind.i64 g] (3 : TypeId)) true, Blk.mk n6 (Cont.cells [AV.v (Value.int IntKind.i64 (0 : Int))] (3 : Nat)) true,
 Blk.mk n7
 (Cont.rows n8
 [Col.ints IntKind.i64 fun (i : Nat) =>
 if i < (0 : Nat) then (0 : Int)
 else
 if i < (1 : Nat) then
 match asI IntKind.i64 ((nth [AV.v (Value.int IntKind.i64 (0 : Int))] (((0 : Nat) + (i - (0 : Nat))) * (1 : Nat) + nat_lit 0)).getD (AV.v undef)) with
 | some x => x
 | none => (0 : Int)
 else (0 : Int)]
 (3 : Nat))
 true]
 [Blk.mk hn (Cont.cells [AV.v (Value.int IntKind.i64 m), AV.v (Value.int IntKind.i64 (↑at_ : Int)), AV.sl (2 : Nat) an r (1 : Nat) len cap, AV.mp (1 : Nat) mn] (55 : Nat)) true, Blk.mk mn (Cont.mape (ByteArray × Int) kyM vlM mkM es clock) true, Blk.mk an (Cont.rows N [Col.ints IntKind.i64 g] (3 : TypeId)) true]) ∨
 ∃ (x : TX),
 (x.p + x.k = at_ ∧ a.snd ≤ (↑x.p : Int) ∧ x.k ≤ x.cap ∧ (1 : Nat) ≤ x.k ∧ ∀ (n11 : Nat), n11 < x.k → x.5 n11 = g (r + (at_ - (1 : Nat) - n11))) ∧
 ((↑x.p : Int) - a.snd).natAbs < ((↑at_ : Int) - a.snd).natAbs ∧
 ((AV.sl (4 : Nat) n7 (0 : Nat) (1 : Nat) (1 : Nat) n8).den = (AV.sl (3 : Nat) x.n (0 : Nat) (1 : Nat) x.k x.cap).den ∧ (AV.ptr (0 : Nat) hn (0 : Nat)).den = (AV.ptr (0 : Nat) hn (0 : Nat)).den ∧ (AV.v (Value.int IntKind.i64 a.snd)).den = (AV.v (Value.int IntKind.i64 a.snd)).den ∧ True) ∧
 LeH
 [Blk.mk hn (Cont.cells [AV.v (Value.int IntKind.i64 m), AV.v (Value.int IntKind.i64 (↑at_ : Int)), AV.sl (2 : Nat) an r (1 : Nat) len cap, AV.mp (1 : Nat) mn] (55 : Nat)) true, Blk.mk mn (Cont.mape (ByteArray × Int) kyM vlM mkM es clock) true, Blk.mk an (Cont.rows N [Col.ints IntKind.i64 g] (3 : TypeId)) true, Blk.mk n6 (Cont.cells [AV.v (Value.int IntKind.i64 (0 : Int))] (3 : Nat)) true,
 Blk.mk n7
 (Cont.rows n8
 [Col.ints IntKind.i64 fun (i : Nat) =>
 if i < (0 : Nat) then (0 : Int)
 else
 if i < (1 : Nat) then
 match asI IntKind.i64 ((nth [AV.v (Value.int IntKind.i64 (0 : Int))] (((0 : Nat) + (i - (0 : Nat))) * (1 : Nat) + nat_lit 0)).getD (AV.v undef)) with
 | some x => x
 | none => (0 : Int)
 else (0 : Int)]
 (3 : Nat))
 true]
 [Blk.mk hn (Cont.cells [AV.v (Value.int IntKind.i64 m), AV.v (Value.int IntKind.i64 (↑x.p : Int)), AV.sl (2 : Nat) an r (1 : Nat) len cap, AV.mp (1 : Nat) mn] (55 : Nat)) true, Blk.mk mn (Cont.mape (ByteArray × Int) kyM vlM mkM es clock) true, Blk.mk an (Cont.rows N [Col.ints IntKind.i64 g] (3 : TypeId)) true, Blk.mk x.n (Cont.rows x.cap [Col.ints IntKind.i64 x.g] (3 : TypeId)) true])
 (hn = hn ∧
 hn = hn ∧
 hn = hn ∧
 hn = hn ∧
 ((0 : Int) ≤ IntKind.i64.wrap ((↑at_ : Int) - (1 : Int)) ∧ IntKind.i64.wrap ((↑at_ : Int) - (1 : Int)) < (↑len : Int)) ∧
 an = an ∧
 r + (IntKind.i64.wrap ((↑at_ : Int) - (1 : Int))).toNat < N ∧
 ∀ (n6 : Nat),
 n6 = n6 ∧
 ((1 : Nat) ≤ (9223372036854775807 : Nat) ∧ (1544 : Nat) ≤ (281474976710656 : Nat)) ∧
 ∀ (n7 n8 : Nat),
 (1 : Nat) ≤ n8 →
 (∃ (x : Unit),
 True ∧
 ((↑at_ : Int) - a.snd).natAbs < ((↑at_ : Int) - a.snd).natAbs ∧
 ((AV.sl (4 : Nat) n7 (0 : Nat) (1 : Nat) (1 : Nat) n8).den = (AV.v (Value.slice none (0 : Nat) (0 : Nat))).den ∧ (AV.ptr (0 : Nat) hn (0 : Nat)).den = (AV.ptr (0 : Nat) hn (0 : Nat)).den ∧ (AV.v (Value.int IntKind.i64 a.snd)).den = (AV.v (Value.int IntKind.i64 a.snd)).den ∧ True) ∧
 LeH
 [Blk.mk hn (Cont.cells [AV.v (Value.int IntKind.i64 m), AV.v (Value.int IntKind.i64 (IntKind.i64.wrap ((↑at_ : Int) - (1 : Int)))), AV.sl (2 : Nat) an r (1 : Nat) len cap, AV.mp (1 : Nat) mn] (55 : Nat)) true, Blk.mk mn (Cont.mape (ByteArray × Int) kyM vlM mkM es clock) true, Blk.mk an (Cont.rows N [Col.ints IntKind.i64 g] (3 : TypeId)) true, Blk.mk n6 (Cont.cells [AV.v (Value.int IntKind.i64 (g (r + (IntKind.i64.wrap ((↑at_ : Int) - (1 : Int))).toNat)))] (3 : Nat)) true,
 Blk.mk n7
 (Cont.rows n8
 [Col.ints IntKind.i64 fun (i : Nat) =>
 if i < (0 : Nat) then (0 : Int)
 else
 if i < (1 : Nat) then
 match asI IntKind.i64 ((nth [AV.v (Value.int IntKind.i64 (g (r + (IntKind.i64.wrap ((↑at_ : Int) - (1 : Int))).toNat)))] (((0 : Nat) + (i - (0 : Nat))) * (1 : Nat) + nat_lit 0)).getD (AV.v undef)) with
 | some x => x
 | none => (0 : Int)
 else (0 : Int)]
 (3 : Nat))
 true]
 [Blk.mk hn (Cont.cells [AV.v (Value.int IntKind.i64 m), AV.v (Value.int IntKind.i64 (↑at_ : Int)), AV.sl (2 : Nat) an r (1 : Nat) len cap, AV.mp (1 : Nat) mn] (55 : Nat)) true, Blk.mk mn (Cont.mape (ByteArray × Int) kyM vlM mkM es clock) true, Blk.mk an (Cont.rows N [Col.ints IntKind.i64 g] (3 : TypeId)) true]) ∨
 ∃ (x : TX),
 (x.p + x.k = at_ ∧ a.snd ≤ (↑x.p : Int) ∧ x.k ≤ x.cap ∧ (1 : Nat) ≤ x.k ∧ ∀ (n11 : Nat), n11 < x.k → x.5 n11 = g (r + (at_ - (1 : Nat) - n11))) ∧
 ((↑x.p : Int) - a.snd).natAbs < ((↑at_ : Int) - a.snd).natAbs ∧
 ((AV.sl (4 : Nat) n7 (0 : Nat) (1 : Nat) (1 : Nat) n8).den = (AV.sl (3 : Nat) x.n (0 : Nat) (1 : Nat) x.k x.cap).den ∧ (AV.ptr (0 : Nat) hn (0 : Nat)).den = (AV.ptr (0 : Nat) hn (0 : Nat)).den ∧ (AV.v (Value.int IntKind.i64 a.snd)).den = (AV.v (Value.int IntKind.i64 a.snd)).den ∧ True) ∧
 LeH
 [Blk.mk hn (Cont.cells [AV.v (Value.int IntKind.i64 m), AV.v (Value.int IntKind.i64 (IntKind.i64.wrap ((↑at_ : Int) - (1 : Int)))), AV.sl (2 : Nat) an r (1 : Nat) len cap, AV.mp (1 : Nat) mn] (55 : Nat)) true, Blk.mk mn (Cont.mape (ByteArray × Int) kyM vlM mkM es clock) true, Blk.mk an (Cont.rows N [Col.ints IntKind.i64 g] (3 : TypeId)) true, Blk.mk n6 (Cont.cells [AV.v (Value.int IntKind.i64 (g (r + (IntKind.i64.wrap ((↑at_ : Int) - (1 : Int))).toNat)))] (3 : Nat)) true,
 Blk.mk n7
 (Cont.rows n8
 [Col.ints IntKind.i64 fun (i : Nat) =>
 if i < (0 : Nat) then (0 : Int)
 else
 if i < (1 : Nat) then
 match asI IntKind.i64 ((nth [AV.v (Value.int IntKind.i64 (g (r + (IntKind.i64.wrap ((↑at_ : Int) - (1 : Int))).toNat)))] (((0 : Nat) + (i - (0 : Nat))) * (1 : Nat) + nat_lit 0)).getD (AV.v undef)) with
 | some x => x
 | none => (0 : Int)
 else (0 : Int)]
 (3 : Nat))
 true]
 [Blk.mk hn (Cont.cells [AV.v (Value.int IntKind.i64 m), AV.v (Value.int IntKind.i64 (↑x.p : Int)), AV.sl (2 : Nat) an r (1 : Nat) len cap, AV.mp (1 : Nat) mn] (55 : Nat)) true, Blk.mk mn (Cont.mape (ByteArray × Int) kyM vlM mkM es clock) true, Blk.mk an (Cont.rows N [Col.ints IntKind.i64 g] (3 : TypeId)) true, Blk.mk x.n (Cont.rows x.cap [Col.ints IntKind.i64 x.g] (3 : TypeId)) true]))
 (((∃ (x : Unit), True ∧ ((AV.v (Value.slice none (0 : Nat) (0 : Nat))).den = (AV.v (Value.slice none (0 : Nat) (0 : Nat))).den ∧ (AV.ptr (0 : Nat) hn (0 : Nat)).den = (AV.ptr (0 : Nat) hn (0 : Nat)).den ∧ (AV.v (Value.int IntKind.i64 a.snd)).den = (AV.v (Value.int IntKind.i64 a.snd)).den ∧ True) ∧ LeH [Blk.mk hn (Cont.cells [AV.v (Value.int IntKind.i64 m), AV.v (Value.int IntKind.i64 (↑at_ : Int)), AV.sl (2 : Nat) an r (1 : Nat) len cap, AV.mp (1 : Nat) mn] (55 : Nat)) true, Blk.mk mn (Cont.mape (ByteArray × Int) kyM vlM mkM es clock) true, Blk.mk an (Cont.rows N [Col.ints IntKind.i64 g] (3 : TypeId)) true] [Blk.mk hn (Cont.cells [AV.v (Value.int IntKind.i64 m), AV.v (Value.int IntKind.i64 (↑at_ : Int)), AV.sl (2 : Nat) an r (1 : Nat) len cap, AV.mp (1 : Nat) mn] (55 : Nat)) true, Blk.mk mn (Cont.mape (ByteArray × Int) kyM vlM mkM es clock) true, Blk.mk an (Cont.rows N [Col.ints IntKind.i64 g] (3 : TypeId)) true]) ∨ ∃ (x : TX), (x.p = at_ + x.k ∧ (↑x.p : Int) ≤ a.snd ∧ x.k ≤ x.cap ∧ (1 : Nat) ≤ x.k ∧ ∀ (n7 : Nat), n7 < x.k → x.5 n7 = g (r + (at_ + n7))) ∧ ((AV.v (Value.slice none (0 : Nat) (0 : Nat))).den = (AV.sl (3 : Nat) x.n (0 : Nat) (1 : Nat) x.k x.cap).den ∧ (AV.ptr (0 : Nat) hn (0 : Nat)).den = (AV.ptr (0 : Nat) hn (0 : Nat)).den ∧ (AV.v (Value.int IntKind.i64 a.snd)).den = (AV.v (Value.int IntKind.i64 a.snd)).den ∧ True) ∧ LeH [Blk.mk hn (Cont.cells [AV.v (Value.int IntKind.i64 m), AV.v (Value.int IntKind.i64 (↑at_ : Int)), AV.sl (2 : Nat) an r (1 : Nat) len cap, AV.mp (1 : Nat) mn] (55 : Nat)) true, Blk.mk mn (Cont.mape (ByteArray × Int) kyM vlM mkM es clock) true, Blk.mk an (Cont.rows N [Col.ints IntKind.i64 g] (3 : TypeId)) true] [Blk.mk hn (Cont.cells [AV.v (Value.int IntKind.i64 m), AV.v (Value.int IntKind.i64 (↑x.p : Int)), AV.sl (2 : Nat) an r (1 : Nat) len cap, AV.mp (1 : Nat) mn] (55 : Nat)) true, Blk.mk mn (Cont.mape (ByteArray × Int) kyM vlM mkM es clock) true, Blk.mk an (Cont.rows N [Col.ints IntKind.i64 g] (3 : TypeId)) true, Blk.mk x.n (Cont.rows x.cap [Col.ints IntKind.i64 x.g] (3 : TypeId)) true]) ∧
 (∀ (x : Unit),
 True →
 hn = hn ∧
 br (decide ((↑at_ : Int) < a.snd))
 (hn = hn ∧
 hn = hn ∧
 hn = hn ∧
 br ((↑at_ : Int) == (↑len : Int))
 (∀ (n8 : Nat),
 n8 = n8 ∧
 ((1 : Nat) ≤ (9223372036854775807 : Nat) ∧ (1544 : Nat) ≤ (281474976710656 : Nat)) ∧
 ∀ (n9 n10 : Nat),
 (1 : Nat) ≤ n10 →
 (∃ (x : Unit),
 True ∧
 ((↑at_ : Int) - a.snd).natAbs < ((↑at_ : Int) - a.snd).natAbs ∧
 ((AV.sl (4 : Nat) n9 (0 : Nat) (1 : Nat) (1 : Nat) n10).den = (AV.v (Value.slice none (0 : Nat) (0 : Nat))).den ∧ (AV.ptr (0 : Nat) hn (0 : Nat)).den = (AV.ptr (0 : Nat) hn (0 : Nat)).den ∧ (AV.v (Value.int IntKind.i64 a.snd)).den = (AV.v (Value.int IntKind.i64 a.snd)).den ∧ True) ∧
 LeH
 [Blk.mk hn (Cont.cells [AV.v (Value.int IntKind.i64 m), AV.v (Value.int IntKind.i64 (↑at_ : Int)), AV.sl (2 : Nat) an r (1 : Nat) len cap, AV.mp (1 : Nat) mn] (55 : Nat)) true, Blk.mk mn (Cont.mape (ByteArray × Int) kyM vlM mkM es clock) true, Blk.mk an (Cont.rows N [Col.ints IntKind.i64 g] (3 : TypeId)) true, Blk.mk n8 (Cont.cells [AV.v (Value.int IntKind.i64 (0 : Int))] (3 : Nat)) true,
 Blk.mk n9
 (Cont.rows n10
 [Col.ints IntKind.i64 fun (i : Nat) =>
 if i < (0 : Nat) then (0 : Int)
 else
 if i < (1 : Nat) then
 match asI IntKind.i64 ((nth [AV.v (Value.int IntKind.i64 (0 : Int))] (((0 : Nat) + (i - (0 : Nat))) * (1 : Nat) + nat_lit 0)).getD (AV.v undef)) with
 | some x => x
 | none => (0 : Int)
 else (0 : Int)]
 (3 : Nat))
 true]
 [Blk.mk hn (Cont.cells [AV.v (Value.int IntKind.i64 m), AV.v (Value.int IntKind.i64 (↑at_ : Int)), AV.sl (2 : Nat) an r (1 : Nat) len cap, AV.mp (1 : Nat) mn] (55 : Nat)) true, Blk.mk mn (Cont.mape (ByteArray × Int) kyM vlM mkM es clock) true, Blk.mk an (Cont.rows N [Col.ints IntKind.i64 g] (3 : TypeId)) true]) ∨
 ∃ (x : TX),
 (x.p = at_ + x.k ∧ (↑x.p : Int) ≤ a.snd ∧ x.k ≤ x.cap ∧ (1 : Nat) ≤ x.k ∧ ∀ (n13 : Nat), n13 < x.k → x.5 n13 = g (r + (at_ + n13))) ∧
 ((↑x.p : Int) - a.snd).natAbs < ((↑at_ : Int) - a.snd).natAbs ∧
 ((AV.sl (4 : Nat) n9 (0 : Nat) (1 : Nat) (1 : Nat) n10).den = (AV.sl (3 : Nat) x.n (0 : Nat) (1 : Nat) x.k x.cap).den ∧ (AV.ptr (0 : Nat) hn (0 : Nat)).den = (AV.ptr (0 : Nat) hn (0 : Nat)).den ∧ (AV.v (Value.int IntKind.i64 a.snd)).den = (AV.v (Value.int IntKind.i64 a.snd)).den ∧ True) ∧
 LeH
 [Blk.mk hn (Cont.cells [AV.v (Value.int IntKind.i64 m), AV.v (Value.int IntKind.i64 (↑at_ : Int)), AV.sl (2 : Nat) an r (1 : Nat) len cap, AV.mp (1 : Nat) mn] (55 : Nat)) true, Blk.mk mn (Cont.mape (ByteArray × Int) kyM vlM mkM es clock) true, Blk.mk an (Cont.rows N [Col.ints IntKind.i64 g] (3 : TypeId)) true, Blk.mk n8 (Cont.cells [AV.v (Value.int IntKind.i64 (0 : Int))] (3 : Nat)) true,
 Blk.mk n9
 (Cont.rows n10
 [Col.ints IntKind.i64 fun (i : Nat) =>
 if i < (0 : Nat) then (0 : Int)
 else
 if i < (1 : Nat) then
 match asI IntKind.i64 ((nth [AV.v (Value.int IntKind.i64 (0 : Int))] (((0 : Nat) + (i - (0 : Nat))) * (1 : Nat) + nat_lit 0)).getD (AV.v undef)) with
 | some x => x
 | none => (0 : Int)
 else (0 : Int)]
 (3 : Nat))
 true]
 [Blk.mk hn (Cont.cells [AV.v (Value.int IntKind.i64 m), AV.v (Value.int IntKind.i64 (↑x.p : Int)), AV.sl (2 : Nat) an r (1 : Nat) len cap, AV.mp (1 : Nat) mn] (55 : Nat)) true, Blk.mk mn (Cont.mape (ByteArray × Int) kyM vlM mkM es clock) true, Blk.mk an (Cont.rows N [Col.ints IntKind.i64 g] (3 : TypeId)) true, Blk.mk x.n (Cont.rows x.cap [Col.ints IntKind.i64 x.g] (3 : TypeId)) true])
 (hn = hn ∧
 hn = hn ∧
 hn = hn ∧
 hn = hn ∧
 ((0 : Int) ≤ IntKind.i64.wrap (IntKind.i64.wrap ((↑at_ : Int) + (1 : Int)) - (1 : Int)) ∧ IntKind.i64.wrap (IntKind.i64.wrap ((↑at_ : Int) + (1 : Int)) - (1 : Int)) < (↑len : Int)) ∧
 an = an ∧
 r + (IntKind.i64.wrap (IntKind.i64.wrap ((↑at_ : Int) + (1 : Int)) - (1 : Int))).toNat < N ∧
 ∀ (n8 : Nat),
 n8 = n8 ∧
 ((1 : Nat) ≤ (9223372036854775807 : Nat) ∧ (1544 : Nat) ≤ (281474976710656 : Nat)) ∧
 ∀ (n9 n10 : Nat),
 (1 : Nat) ≤ n10 →
 (∃ (x : Unit),
 True ∧
 ((↑at_ : Int) - a.snd).natAbs < ((↑at_ : Int) - a.snd).natAbs ∧
 ((AV.sl (4 : Nat) n9 (0 : Nat) (1 : Nat) (1 : Nat) n10).den = (AV.v (Value.slice none (0 : Nat) (0 : Nat))).den ∧ (AV.ptr (0 : Nat) hn (0 : Nat)).den = (AV.ptr (0 : Nat) hn (0 : Nat)).den ∧ (AV.v (Value.int IntKind.i64 a.snd)).den = (AV.v (Value.int IntKind.i64 a.snd)).den ∧ True) ∧
 LeH
 [Blk.mk hn (Cont.cells [AV.v (Value.int IntKind.i64 m), AV.v (Value.int IntKind.i64 (IntKind.i64.wrap ((↑at_ : Int) + (1 : Int)))), AV.sl (2 : Nat) an r (1 : Nat) len cap, AV.mp (1 : Nat) mn] (55 : Nat)) true, Blk.mk mn (Cont.mape (ByteArray × Int) kyM vlM mkM es clock) true, Blk.mk an (Cont.rows N [Col.ints IntKind.i64 g] (3 : TypeId)) true, Blk.mk n8 (Cont.cells [AV.v (Value.int IntKind.i64 (g (r + (IntKind.i64.wrap (IntKind.i64.wrap ((↑at_ : Int) + (1 : Int)) - (1 : Int))).toNat)))] (3 : Nat)) true,
 Blk.mk n9
 (Cont.rows n10
 [Col.ints IntKind.i64 fun (i : Nat) =>
 if i < (0 : Nat) then (0 : Int)
 else
 if i < (1 : Nat) then
 match asI IntKind.i64 ((nth [AV.v (Value.int IntKind.i64 (g (r + (IntKind.i64.wrap (IntKind.i64.wrap ((↑at_ : Int) + (1 : Int)) - (1 : Int))).toNat)))] (((0 : Nat) + (i - (0 : Nat))) * (1 : Nat) + nat_lit 0)).getD (AV.v undef)) with
 | some x => x
 | none => (0 : Int)
 else (0 : Int)]
 (3 : Nat))
 true]
 [Blk.mk hn (Cont.cells [AV.v (Value.int IntKind.i64 m), AV.v (Value.int IntKind.i64 (↑at_ : Int)), AV.sl (2 : Nat) an r (1 : Nat) len cap, AV.mp (1 : Nat) mn] (55 : Nat)) true, Blk.mk mn (Cont.mape (ByteArray × Int) kyM vlM mkM es clock) true, Blk.mk an (Cont.rows N [Col.ints IntKind.i64 g] (3 : TypeId)) true]) ∨
 ∃ (x : TX),
 (x.p = at_ + x.k ∧ (↑x.p : Int) ≤ a.snd ∧ x.k ≤ x.cap ∧ (1 : Nat) ≤ x.k ∧ ∀ (n13 : Nat), n13 < x.k → x.5 n13 = g (r + (at_ + n13))) ∧
 ((↑x.p : Int) - a.snd).natAbs < ((↑at_ : Int) - a.snd).natAbs ∧
 ((AV.sl (4 : Nat) n9 (0 : Nat) (1 : Nat) (1 : Nat) n10).den = (AV.sl (3 : Nat) x.n (0 : Nat) (1 : Nat) x.k x.cap).den ∧ (AV.ptr (0 : Nat) hn (0 : Nat)).den = (AV.ptr (0 : Nat) hn (0 : Nat)).den ∧ (AV.v (Value.int IntKind.i64 a.snd)).den = (AV.v (Value.int IntKind.i64 a.snd)).den ∧ True) ∧
 LeH
 [Blk.mk hn (Cont.cells [AV.v (Value.int IntKind.i64 m), AV.v (Value.int IntKind.i64 (IntKind.i64.wrap ((↑at_ : Int) + (1 : Int)))), AV.sl (2 : Nat) an r (1 : Nat) len cap, AV.mp (1 : Nat) mn] (55 : Nat)) true, Blk.mk mn (Cont.mape (ByteArray × Int) kyM vlM mkM es clock) true, Blk.mk an (Cont.rows N [Col.ints IntKind.i64 g] (3 : TypeId)) true, Blk.mk n8 (Cont.cells [AV.v (Value.int IntKind.i64 (g (r + (IntKind.i64.wrap (IntKind.i64.wrap ((↑at_ : Int) + (1 : Int)) - (1 : Int))).toNat)))] (3 : Nat)) true,
 Blk.mk n9
 (Cont.rows n10
 [Col.ints IntKind.i64 fun (i : Nat) =>
 if i < (0 : Nat) then (0 : Int)
 else
 if i < (1 : Nat) then
 match asI IntKind.i64 ((nth [AV.v (Value.int IntKind.i64 (g (r + (IntKind.i64.wrap (IntKind.i64.wrap ((↑at_ : Int) + (1 : Int)) - (1 : Int))).toNat)))] (((0 : Nat) + (i - (0 : Nat))) * (1 : Nat) + nat_lit 0)).getD (AV.v undef)) with
 | some x => x
 | none => (0 : Int)
 else (0 : Int)]
 (3 : Nat))
 true]
 [Blk.mk hn (Cont.cells [AV.v (Value.int IntKind.i64 m), AV.v (Value.int IntKind.i64 (↑x.p : Int)), AV.sl (2 : Nat) an r (1 : Nat) len cap, AV.mp (1 : Nat) mn] (55 : Nat)) true, Blk.mk mn (Cont.mape (ByteArray × Int) kyM vlM mkM es clock) true, Blk.mk an (Cont.rows N [Col.ints IntKind.i64 g] (3 : TypeId)) true, Blk.mk x.n (Cont.rows x.cap [Col.ints IntKind.i64 x.g] (3 : TypeId)) true]))
 (R (AV.tup [AV.v (Value.slice none (0 : Nat) (0 : Nat)), AV.v (Value.int IntKind.i64 (0 : Int))]) [Blk.mk hn (Cont.cells [AV.v (Value.int IntKind.i64 m), AV.v (Value.int IntKind.i64 (↑at_ : Int)), AV.sl (2 : Nat) an r (1 : Nat) len cap, AV.mp (1 : Nat) mn] (55 : Nat)) true, Blk.mk mn (Cont.mape (ByteArray × Int) kyM vlM mkM es clock) true, Blk.mk an (Cont.rows N [Col.ints IntKind.i64 g] (3 : TypeId)) true])) ∧
 ∀ (x : TX),
 toU at_ r g a.snd x →
 hn = hn ∧
 br (decide ((↑x.p : Int) < a.snd))
 (hn = hn ∧
 hn = hn ∧
 hn = hn ∧
 br ((↑x.p : Int) == (↑len : Int))
 (∀ (n8 : Nat),
 n8 = n8 ∧
 x.n = x.n ∧
 x.cap = x.cap ∧
 x.k ≤ x.cap ∧
 (x.k + (1 : Nat) ≤ (9223372036854775807 : Nat) ∧ (x.k + (1 : Nat) + (x.k + (1 : Nat)) / (4 : Nat) + (192 : Nat)) * (8 : Nat) ≤ (281474976710656 : Nat)) ∧
 ∀ (b9 : Bool) (n10 n11 : Nat),
 x.k + (1 : Nat) ≤ n11 →
 (∃ (x_1 : Unit),
 True ∧
 ((↑at_ : Int) - a.snd).natAbs < ((↑x.p : Int) - a.snd).natAbs ∧
 ((AV.sl (3 : Nat) n10 (0 : Nat) (1 : Nat) (x.k + (1 : Nat)) n11).den = (AV.v (Value.slice none (0 : Nat) (0 : Nat))).den ∧ (AV.ptr (0 : Nat) hn (0 : Nat)).den = (AV.ptr (0 : Nat) hn (0 : Nat)).den ∧ (AV.v (Value.int IntKind.i64 a.snd)).den = (AV.v (Value.int IntKind.i64 a.snd)).den ∧ True) ∧
 LeH
 [Blk.mk hn (Cont.cells [AV.v (Value.int IntKind.i64 m), AV.v (Value.int IntKind.i64 (↑x.p : Int)), AV.sl (2 : Nat) an r (1 : Nat) len cap, AV.mp (1 : Nat) mn] (55 : Nat)) true, Blk.mk mn (Cont.mape (ByteArray × Int) kyM vlM mkM es clock) true, Blk.mk an (Cont.rows N [Col.ints IntKind.i64 g] (3 : TypeId)) true,
 Blk.mk n10
 (Cont.rows n11
 (mixCols (x.k + (1 : Nat)) b9
 [Col.ints IntKind.i64 fun (i : Nat) =>
 if i < x.k then x.5 ((0 : Nat) + i)
 else
 if i < x.k + (1 : Nat) then
 match asI IntKind.i64 ((nth [AV.v (Value.int IntKind.i64 (0 : Int))] (((0 : Nat) + (i - x.k)) * (1 : Nat) + nat_lit 0)).getD (AV.v undef)) with
 | some x => x
 | none => (0 : Int)
 else (0 : Int)]
 [Col.ints IntKind.i64 fun (q : Nat) =>
 if (0 : Nat) + x.k ≤ q ∧ q < (0 : Nat) + x.k + (1 : Nat) then
 match asI IntKind.i64 ((nth [AV.v (Value.int IntKind.i64 (0 : Int))] (((0 : Nat) + (q - ((0 : Nat) + x.k))) * (1 : Nat) + nat_lit 0)).getD (AV.v undef)) with
 | some x => x
 | none => (0 : Int)
 else x.5 q])
 (3 : TypeId))
 true,
 Blk.mk n8 (Cont.cells [AV.v (Value.int IntKind.i64 (0 : Int))] (3 : Nat)) true]
 [Blk.mk hn (Cont.cells [AV.v (Value.int IntKind.i64 m), AV.v (Value.int IntKind.i64 (↑at_ : Int)), AV.sl (2 : Nat) an r (1 : Nat) len cap, AV.mp (1 : Nat) mn] (55 : Nat)) true, Blk.mk mn (Cont.mape (ByteArray × Int) kyM vlM mkM es clock) true, Blk.mk an (Cont.rows N [Col.ints IntKind.i64 g] (3 : TypeId)) true]) ∨
 ∃ (x_1 : TX),
 (x_1.p = at_ + x_1.k ∧ (↑x_1.p : Int) ≤ a.snd ∧ x_1.k ≤ x_1.cap ∧ (1 : Nat) ≤ x_1.k ∧ ∀ (n14 : Nat), n14 < x_1.k → x_1.5 n14 = g (r + (at_ + n14))) ∧
 ((↑x_1.p : Int) - a.snd).natAbs < ((↑x.p : Int) - a.snd).natAbs ∧
 ((AV.sl (3 : Nat) n10 (0 : Nat) (1 : Nat) (x.k + (1 : Nat)) n11).den = (AV.sl (3 : Nat) x_1.n (0 : Nat) (1 : Nat) x_1.k x_1.cap).den ∧ (AV.ptr (0 : Nat) hn (0 : Nat)).den = (AV.ptr (0 : Nat) hn (0 : Nat)).den ∧ (AV.v (Value.int IntKind.i64 a.snd)).den = (AV.v (Value.int IntKind.i64 a.snd)).den ∧ True) ∧
 LeH
 [Blk.mk hn (Cont.cells [AV.v (Value.int IntKind.i64 m), AV.v (Value.int IntKind.i64 (↑x.p : Int)), AV.sl (2 : Nat) an r (1 : Nat) len cap, AV.mp (1 : Nat) mn] (55 : Nat)) true, Blk.mk mn (Cont.mape (ByteArray × Int) kyM vlM mkM es clock) true, Blk.mk an (Cont.rows N [Col.ints IntKind.i64 g] (3 : TypeId)) true,
 Blk.mk n10
 (Cont.rows n11
 (mixCols (x.k + (1 : Nat)) b9
 [Col.ints IntKind.i64 fun (i : Nat) =>
 if i < x.k then x.5 ((0 : Nat) + i)
 else
 if i < x.k + (1 : Nat) then
 match asI IntKind.i64 ((nth [AV.v (Value.int IntKind.i64 (0 : Int))] (((0 : Nat) + (i - x.k)) * (1 : Nat) + nat_lit 0)).getD (AV.v undef)) with
 | some x => x
 | none => (0 : Int)
 else (0 : Int)]
 [Col.ints IntKind.i64 fun (q : Nat) =>
 if (0 : Nat) + x.k ≤ q ∧ q < (0 : Nat) + x.k + (1 : Nat) then
 match asI IntKind.i64 ((nth [AV.v (Value.int IntKind.i64 (0 : Int))] (((0 : Nat) + (q - ((0 : Nat) + x.k))) * (1 : Nat) + nat_lit 0)).getD (AV.v undef)) with
 | some x => x
 | none => (0 : Int)
 else x.5 q])
 (3 : TypeId))
 true,
 Blk.mk n8 (Cont.cells [AV.v (Value.int IntKind.i64 (0 : Int))] (3 : Nat)) true]
 [Blk.mk hn (Cont.cells [AV.v (Value.int IntKind.i64 m), AV.v (Value.int IntKind.i64 (↑x_1.p : Int)), AV.sl (2 : Nat) an r (1 : Nat) len cap, AV.mp (1 : Nat) mn] (55 : Nat)) true, Blk.mk mn (Cont.mape (ByteArray × Int) kyM vlM mkM es clock) true, Blk.mk an (Cont.rows N [Col.ints IntKind.i64 g] (3 : TypeId)) true, Blk.mk x_1.n (Cont.rows x_1.cap [Col.ints IntKind.i64 x_1.g] (3 : TypeId)) true])
 (hn = hn ∧
 hn = hn ∧
 hn = hn ∧
 hn = hn ∧
 ((0 : Int) ≤ IntKind.i64.wrap (IntKind.i64.wrap ((↑x.p : Int) + (1 : Int)) - (1 : Int)) ∧ IntKind.i64.wrap (IntKind.i64.wrap ((↑x.p : Int) + (1 : Int)) - (1 : Int)) < (↑len : Int)) ∧
 an = an ∧
 r + (IntKind.i64.wrap (IntKind.i64.wrap ((↑x.p : Int) + (1 : Int)) - (1 : Int))).toNat < N ∧
 ∀ (n8 : Nat),
 n8 = n8 ∧
 x.n = x.n ∧
 x.cap = x.cap ∧
 x.k ≤ x.cap ∧
 (x.k + (1 : Nat) ≤ (9223372036854775807 : Nat) ∧ (x.k + (1 : Nat) + (x.k + (1 : Nat)) / (4 : Nat) + (192 : Nat)) * (8 : Nat) ≤ (281474976710656 : Nat)) ∧
 ∀ (b9 : Bool) (n10 n11 : Nat),
 x.k + (1 : Nat) ≤ n11 →
 (∃ (x_1 : Unit),
 True ∧
 ((↑at_ : Int) - a.snd).natAbs < ((↑x.p : Int) - a.snd).natAbs ∧
 ((AV.sl (3 : Nat) n10 (0 : Nat) (1 : Nat) (x.k + (1 : Nat)) n11).den = (AV.v (Value.slice none (0 : Nat) (0 : Nat))).den ∧ (AV.ptr (0 : Nat) hn (0 : Nat)).den = (AV.ptr (0 : Nat) hn (0 : Nat)).den ∧ (AV.v (Value.int IntKind.i64 a.snd)).den = (AV.v (Value.int IntKind.i64 a.snd)).den ∧ True) ∧
 LeH
 [Blk.mk hn (Cont.cells [AV.v (Value.int IntKind.i64 m), AV.v (Value.int IntKind.i64 (IntKind.i64.wrap ((↑x.p : Int) + (1 : Int)))), AV.sl (2 : Nat) an r (1 : Nat) len cap, AV.mp (1 : Nat) mn] (55 : Nat)) true, Blk.mk mn (Cont.mape (ByteArray × Int) kyM vlM mkM es clock) true, Blk.mk an (Cont.rows N [Col.ints IntKind.i64 g] (3 : TypeId)) true,
 Blk.mk n10
 (Cont.rows n11
 (mixCols (x.k + (1 : Nat)) b9
 [Col.ints IntKind.i64 fun (i : Nat) =>
 if i < x.k then x.5 ((0 : Nat) + i)
 else
 if i < x.k + (1 : Nat) then
 match asI IntKind.i64 ((nth [AV.v (Value.int IntKind.i64 (g (r + (IntKind.i64.wrap (IntKind.i64.wrap ((↑x.p : Int) + (1 : Int)) - (1 : Int))).toNat)))] (((0 : Nat) + (i - x.k)) * (1 : Nat) + nat_lit 0)).getD (AV.v undef)) with
 | some x => x
 | none => (0 : Int)
 else (0 : Int)]
 [Col.ints IntKind.i64 fun (q : Nat) =>
 if (0 : Nat) + x.k ≤ q ∧ q < (0 : Nat) + x.k + (1 : Nat) then
 match asI IntKind.i64 ((nth [AV.v (Value.int IntKind.i64 (g (r + (IntKind.i64.wrap (IntKind.i64.wrap ((↑x.p : Int) + (1 : Int)) - (1 : Int))).toNat)))] (((0 : Nat) + (q - ((0 : Nat) + x.k))) * (1 : Nat) + nat_lit 0)).getD (AV.v undef)) with
 | some x => x
 | none => (0 : Int)
 else x.5 q])
 (3 : TypeId))
 true,
 Blk.mk n8 (Cont.cells [AV.v (Value.int IntKind.i64 (g (r + (IntKind.i64.wrap (IntKind.i64.wrap ((↑x.p : Int) + (1 : Int)) - (1 : Int))).toNat)))] (3 : Nat)) true]
 [Blk.mk hn (Cont.cells [AV.v (Value.int IntKind.i64 m), AV.v (Value.int IntKind.i64 (↑at_ : Int)), AV.sl (2 : Nat) an r (1 : Nat) len cap, AV.mp (1 : Nat) mn] (55 : Nat)) true, Blk.mk mn (Cont.mape (ByteArray × Int) kyM vlM mkM es clock) true, Blk.mk an (Cont.rows N [Col.ints IntKind.i64 g] (3 : TypeId)) true]) ∨
 ∃ (x_1 : TX),
 (x_1.p = at_ + x_1.k ∧ (↑x_1.p : Int) ≤ a.snd ∧ x_1.k ≤ x_1.cap ∧ (1 : Nat) ≤ x_1.k ∧ ∀ (n14 : Nat), n14 < x_1.k → x_1.5 n14 = g (r + (at_ + n14))) ∧
 ((↑x_1.p : Int) - a.snd).natAbs < ((↑x.p : Int) - a.snd).natAbs ∧
 ((AV.sl (3 : Nat) n10 (0 : Nat) (1 : Nat) (x.k + (1 : Nat)) n11).den = (AV.sl (3 : Nat) x_1.n (0 : Nat) (1 : Nat) x_1.k x_1.cap).den ∧ (AV.ptr (0 : Nat) hn (0 : Nat)).den = (AV.ptr (0 : Nat) hn (0 : Nat)).den ∧ (AV.v (Value.int IntKind.i64 a.snd)).den = (AV.v (Value.int IntKind.i64 a.snd)).den ∧ True) ∧
 LeH
 [Blk.mk hn (Cont.cells [AV.v (Value.int IntKind.i64 m), AV.v (Value.int IntKind.i64 (IntKind.i64.wrap ((↑x.p : Int) + (1 : Int)))), AV.sl (2 : Nat) an r (1 : Nat) len cap, AV.mp (1 : Nat) mn] (55 : Nat)) true, Blk.mk mn (Cont.mape (ByteArray × Int) kyM vlM mkM es clock) true, Blk.mk an (Cont.rows N [Col.ints IntKind.i64 g] (3 : TypeId)) true,
 Blk.mk n10
 (Cont.rows n11
 (mixCols (x.k + (1 : Nat)) b9
 [Col.ints IntKind.i64 fun (i : Nat) =>
 if i < x.k then x.5 ((0 : Nat) + i)
 else
 if i < x.k + (1 : Nat) then
 match asI IntKind.i64 ((nth [AV.v (Value.int IntKind.i64 (g (r + (IntKind.i64.wrap (IntKind.i64.wrap ((↑x.p : Int) + (1 : Int)) - (1 : Int))).toNat)))] (((0 : Nat) + (i - x.k)) * (1 : Nat) + nat_lit 0)).getD (AV.v undef)) with
 | some x => x
 | none => (0 : Int)
 else (0 : Int)]
 [Col.ints IntKind.i64 fun (q : Nat) =>
 if (0 : Nat) + x.k ≤ q ∧ q < (0 : Nat) + x.k + (1 : Nat) then
 match asI IntKind.i64 ((nth [AV.v (Value.int IntKind.i64 (g (r + (IntKind.i64.wrap (IntKind.i64.wrap ((↑x.p : Int) + (1 : Int)) - (1 : Int))).toNat)))] (((0 : Nat) + (q - ((0 : Nat) + x.k))) * (1 : Nat) + nat_lit 0)).getD (AV.v undef)) with
 | some x => x
 | none => (0 : Int)
 else x.5 q])
 (3 : TypeId))
 true,
 Blk.mk n8 (Cont.cells [AV.v (Value.int IntKind.i64 (g (r + (IntKind.i64.wrap (IntKind.i64.wrap ((↑x.p : Int) + (1 : Int)) - (1 : Int))).toNat)))] (3 : Nat)) true]
 [Blk.mk hn (Cont.cells [AV.v (Value.int IntKind.i64 m), AV.v (Value.int IntKind.i64 (↑x_1.p : Int)), AV.sl (2 : Nat) an r (1 : Nat) len cap, AV.mp (1 : Nat) mn] (55 : Nat)) true, Blk.mk mn (Cont.mape (ByteArray × Int) kyM vlM mkM es clock) true, Blk.mk an (Cont.rows N [Col.ints IntKind.i64 g] (3 : TypeId)) true, Blk.mk x_1.n (Cont.rows x_1.cap [Col.ints IntKind.i64 x_1.g] (3 : TypeId)) true]))
 (R (AV.tup [AV.sl (3 : Nat) x.n (0 : Nat) (1 : Nat) x.k x.cap, AV.v (Value.int IntKind.i64 (0 : Int))]) [Blk.mk hn (Cont.cells [AV.v (Value.int IntKind.i64 m), AV.v (Value.int IntKind.i64 (↑x.p : Int)), AV.sl (2 : Nat) an r (1 : Nat) len cap, AV.mp (1 : Nat) mn] (55 : Nat)) true, Blk.mk mn (Cont.mape (ByteArray × Int) kyM vlM mkM es clock) true, Blk.mk an (Cont.rows N [Col.ints IntKind.i64 g] (3 : TypeId)) true, Blk.mk x.n (Cont.rows x.cap [Col.ints IntKind.i64 x.g] (3 : TypeId)) true]))) ∧
 ∀ (x : TX),
 toD at_ r g a.snd x →
 hn = hn ∧
 br (decide ((↑x.p : Int) > a.snd))
 (hn = hn ∧
 hn = hn ∧
 br ((↑x.p : Int) == (0 : Int))
 (∀ (n6 : Nat),
 n6 = n6 ∧
 x.n = x.n ∧
 x.cap = x.cap ∧
 x.k ≤ x.cap ∧
 (x.k + (1 : Nat) ≤ (9223372036854775807 : Nat) ∧ (x.k + (1 : Nat) + (x.k + (1 : Nat)) / (4 : Nat) + (192 : Nat)) * (8 : Nat) ≤ (281474976710656 : Nat)) ∧
 ∀ (b7 : Bool) (n8 n9 : Nat),
 x.k + (1 : Nat) ≤ n9 →
 (∃ (x_1 : Unit),
 True ∧
 ((↑at_ : Int) - a.snd).natAbs < ((↑x.p : Int) - a.snd).natAbs ∧
 ((AV.sl (3 : Nat) n8 (0 : Nat) (1 : Nat) (x.k + (1 : Nat)) n9).den = (AV.v (Value.slice none (0 : Nat) (0 : Nat))).den ∧ (AV.ptr (0 : Nat) hn (0 : Nat)).den = (AV.ptr (0 : Nat) hn (0 : Nat)).den ∧ (AV.v (Value.int IntKind.i64 a.snd)).den = (AV.v (Value.int IntKind.i64 a.snd)).den ∧ True) ∧
 LeH
 [Blk.mk hn (Cont.cells [AV.v (Value.int IntKind.i64 m), AV.v (Value.int IntKind.i64 (↑x.p : Int)), AV.sl (2 : Nat) an r (1 : Nat) len cap, AV.mp (1 : Nat) mn] (55 : Nat)) true, Blk.mk mn (Cont.mape (ByteArray × Int) kyM vlM mkM es clock) true, Blk.mk an (Cont.rows N [Col.ints IntKind.i64 g] (3 : TypeId)) true,
 Blk.mk n8
 (Cont.rows n9
 (mixCols (x.k + (1 : Nat)) b7
 [Col.ints IntKind.i64 fun (i : Nat) =>
 if i < x.k then x.5 ((0 : Nat) + i)
 else
 if i < x.k + (1 : Nat) then
 match asI IntKind.i64 ((nth [AV.v (Value.int IntKind.i64 (0 : Int))] (((0 : Nat) + (i - x.k)) * (1 : Nat) + nat_lit 0)).getD (AV.v undef)) with
 | some x => x
 | none => (0 : Int)
 else (0 : Int)]
 [Col.ints IntKind.i64 fun (q : Nat) =>
 if (0 : Nat) + x.k ≤ q ∧ q < (0 : Nat) + x.k + (1 : Nat) then
 match asI IntKind.i64 ((nth [AV.v (Value.int IntKind.i64 (0 : Int))] (((0 : Nat) + (q - ((0 : Nat) + x.k))) * (1 : Nat) + nat_lit 0)).getD (AV.v undef)) with
 | some x => x
 | none => (0 : Int)
 else x.5 q])
 (3 : TypeId))
 true,
 Blk.mk n6 (Cont.cells [AV.v (Value.int IntKind.i64 (0 : Int))] (3 : Nat)) true]
 [Blk.mk hn (Cont.cells [AV.v (Value.int IntKind.i64 m), AV.v (Value.int IntKind.i64 (↑at_ : Int)), AV.sl (2 : Nat) an r (1 : Nat) len cap, AV.mp (1 : Nat) mn] (55 : Nat)) true, Blk.mk mn (Cont.mape (ByteArray × Int) kyM vlM mkM es clock) true, Blk.mk an (Cont.rows N [Col.ints IntKind.i64 g] (3 : TypeId)) true]) ∨
 ∃ (x_1 : TX),
 (x_1.p + x_1.k = at_ ∧ a.snd ≤ (↑x_1.p : Int) ∧ x_1.k ≤ x_1.cap ∧ (1 : Nat) ≤ x_1.k ∧ ∀ (n12 : Nat), n12 < x_1.k → x_1.5 n12 = g (r + (at_ - (1 : Nat) - n12))) ∧
 ((↑x_1.p : Int) - a.snd).natAbs < ((↑x.p : Int) - a.snd).natAbs ∧
 ((AV.sl (3 : Nat) n8 (0 : Nat) (1 : Nat) (x.k + (1 : Nat)) n9).den = (AV.sl (3 : Nat) x_1.n (0 : Nat) (1 : Nat) x_1.k x_1.cap).den ∧ (AV.ptr (0 : Nat) hn (0 : Nat)).den = (AV.ptr (0 : Nat) hn (0 : Nat)).den ∧ (AV.v (Value.int IntKind.i64 a.snd)).den = (AV.v (Value.int IntKind.i64 a.snd)).den ∧ True) ∧
 LeH
 [Blk.mk hn (Cont.cells [AV.v (Value.int IntKind.i64 m), AV.v (Value.int IntKind.i64 (↑x.p : Int)), AV.sl (2 : Nat) an r (1 : Nat) len cap, AV.mp (1 : Nat) mn] (55 : Nat)) true, Blk.mk mn (Cont.mape (ByteArray × Int) kyM vlM mkM es clock) true, Blk.mk an (Cont.rows N [Col.ints IntKind.i64 g] (3 : TypeId)) true,
 Blk.mk n8
 (Cont.rows n9
 (mixCols (x.k + (1 : Nat)) b7
 [Col.ints IntKind.i64 fun (i : Nat) =>
 if i < x.k then x.5 ((0 : Nat) + i)
 else
 if i < x.k + (1 : Nat) then
 match asI IntKind.i64 ((nth [AV.v (Value.int IntKind.i64 (0 : Int))] (((0 : Nat) + (i - x.k)) * (1 : Nat) + nat_lit 0)).getD (AV.v undef)) with
 | some x => x
 | none => (0 : Int)
 else (0 : Int)]
 [Col.ints IntKind.i64 fun (q : Nat) =>
 if (0 : Nat) + x.k ≤ q ∧ q < (0 : Nat) + x.k + (1 : Nat) then
 match asI IntKind.i64 ((nth [AV.v (Value.int IntKind.i64 (0 : Int))] (((0 : Nat) + (q - ((0 : Nat) + x.k))) * (1 : Nat) + nat_lit 0)).getD (AV.v undef)) with
 | some x => x
 | none => (0 : Int)
 else x.5 q])
 (3 : TypeId))
 true,
 Blk.mk n6 (Cont.cells [AV.v (Value.int IntKind.i64 (0 : Int))] (3 : Nat)) true]
 [Blk.mk hn (Cont.cells [AV.v (Value.int IntKind.i64 m), AV.v (Value.int IntKind.i64 (↑x_1.p : Int)), AV.sl (2 : Nat) an r (1 : Nat) len cap, AV.mp (1 : Nat) mn] (55 : Nat)) true, Blk.mk mn (Cont.mape (ByteArray × Int) kyM vlM mkM es clock) true, Blk.mk an (Cont.rows N [Col.ints IntKind.i64 g] (3 : TypeId)) true, Blk.mk x_1.n (Cont.rows x_1.cap [Col.ints IntKind.i64 x_1.g] (3 : TypeId)) true])
 (hn = hn ∧
 hn = hn ∧
 hn = hn ∧
 hn = hn ∧
 ((0 : Int) ≤ IntKind.i64.wrap ((↑x.p : Int) - (1 : Int)) ∧ IntKind.i64.wrap ((↑x.p : Int) - (1 : Int)) < (↑len : Int)) ∧
 an = an ∧
 r + (IntKind.i64.wrap ((↑x.p : Int) - (1 : Int))).toNat < N ∧
 ∀ (n6 : Nat),
 n6 = n6 ∧
 x.n = x.n ∧
 x.cap = x.cap ∧
 x.k ≤ x.cap ∧
 (x.k + (1 : Nat) ≤ (9223372036854775807 : Nat) ∧ (x.k + (1 : Nat) + (x.k + (1 : Nat)) / (4 : Nat) + (192 : Nat)) * (8 : Nat) ≤ (281474976710656 : Nat)) ∧
 ∀ (b7 : Bool) (n8 n9 : Nat),
 x.k + (1 : Nat) ≤ n9 →
 (∃ (x_1 : Unit),
 True ∧
 ((↑at_ : Int) - a.snd).natAbs < ((↑x.p : Int) - a.snd).natAbs ∧
 ((AV.sl (3 : Nat) n8 (0 : Nat) (1 : Nat) (x.k + (1 : Nat)) n9).den = (AV.v (Value.slice none (0 : Nat) (0 : Nat))).den ∧ (AV.ptr (0 : Nat) hn (0 : Nat)).den = (AV.ptr (0 : Nat) hn (0 : Nat)).den ∧ (AV.v (Value.int IntKind.i64 a.snd)).den = (AV.v (Value.int IntKind.i64 a.snd)).den ∧ True) ∧
 LeH
 [Blk.mk hn (Cont.cells [AV.v (Value.int IntKind.i64 m), AV.v (Value.int IntKind.i64 (IntKind.i64.wrap ((↑x.p : Int) - (1 : Int)))), AV.sl (2 : Nat) an r (1 : Nat) len cap, AV.mp (1 : Nat) mn] (55 : Nat)) true, Blk.mk mn (Cont.mape (ByteArray × Int) kyM vlM mkM es clock) true, Blk.mk an (Cont.rows N [Col.ints IntKind.i64 g] (3 : TypeId)) true,
 Blk.mk n8
 (Cont.rows n9
 (mixCols (x.k + (1 : Nat)) b7
 [Col.ints IntKind.i64 fun (i : Nat) =>
 if i < x.k then x.5 ((0 : Nat) + i)
 else
 if i < x.k + (1 : Nat) then
 match asI IntKind.i64 ((nth [AV.v (Value.int IntKind.i64 (g (r + (IntKind.i64.wrap ((↑x.p : Int) - (1 : Int))).toNat)))] (((0 : Nat) + (i - x.k)) * (1 : Nat) + nat_lit 0)).getD (AV.v undef)) with
 | some x => x
 | none => (0 : Int)
 else (0 : Int)]
 [Col.ints IntKind.i64 fun (q : Nat) =>
 if (0 : Nat) + x.k ≤ q ∧ q < (0 : Nat) + x.k + (1 : Nat) then
 match asI IntKind.i64 ((nth [AV.v (Value.int IntKind.i64 (g (r + (IntKind.i64.wrap ((↑x.p : Int) - (1 : Int))).toNat)))] (((0 : Nat) + (q - ((0 : Nat) + x.k))) * (1 : Nat) + nat_lit 0)).getD (AV.v undef)) with
 | some x => x
 | none => (0 : Int)
 else x.5 q])
 (3 : TypeId))
 true,
 Blk.mk n6 (Cont.cells [AV.v (Value.int IntKind.i64 (g (r + (IntKind.i64.wrap ((↑x.p : Int) - (1 : Int))).toNat)))] (3 : Nat)) true]
 [Blk.mk hn (Cont.cells [AV.v (Value.int IntKind.i64 m), AV.v (Value.int IntKind.i64 (↑at_ : Int)), AV.sl (2 : Nat) an r (1 : Nat) len cap, AV.mp (1 : Nat) mn] (55 : Nat)) true, Blk.mk mn (Cont.mape (ByteArray × Int) kyM vlM mkM es clock) true, Blk.mk an (Cont.rows N [Col.ints IntKind.i64 g] (3 : TypeId)) true]) ∨
 ∃ (x_1 : TX),
 (x_1.p + x_1.k = at_ ∧ a.snd ≤ (↑x_1.p : Int) ∧ x_1.k ≤ x_1.cap ∧ (1 : Nat) ≤ x_1.k ∧ ∀ (n12 : Nat), n12 < x_1.k → x_1.5 n12 = g (r + (at_ - (1 : Nat) - n12))) ∧
 ((↑x_1.p : Int) - a.snd).natAbs < ((↑x.p : Int) - a.snd).natAbs ∧
 ((AV.sl (3 : Nat) n8 (0 : Nat) (1 : Nat) (x.k + (1 : Nat)) n9).den = (AV.sl (3 : Nat) x_1.n (0 : Nat) (1 : Nat) x_1.k x_1.cap).den ∧ (AV.ptr (0 : Nat) hn (0 : Nat)).den = (AV.ptr (0 : Nat) hn (0 : Nat)).den ∧ (AV.v (Value.int IntKind.i64 a.snd)).den = (AV.v (Value.int IntKind.i64 a.snd)).den ∧ True) ∧
 LeH
 [Blk.mk hn (Cont.cells [AV.v (Value.int IntKind.i64 m), AV.v (Value.int IntKind.i64 (IntKind.i64.wrap ((↑x.p : Int) - (1 : Int)))), AV.sl (2 : Nat) an r (1 : Nat) len cap, AV.mp (1 : Nat) mn] (55 : Nat)) true, Blk.mk mn (Cont.mape (ByteArray × Int) kyM vlM mkM es clock) true, Blk.mk an (Cont.rows N [Col.ints IntKind.i64 g] (3 : TypeId)) true,
 Blk.mk n8
 (Cont.rows n9
 (mixCols (x.k + (1 : Nat)) b7
 [Col.ints IntKind.i64 fun (i : Nat) =>
 if i < x.k then x.5 ((0 : Nat) + i)
 else
 if i < x.k + (1 : Nat) then
 match asI IntKind.i64 ((nth [AV.v (Value.int IntKind.i64 (g (r + (IntKind.i64.wrap ((↑x.p : Int) - (1 : Int))).toNat)))] (((0 : Nat) + (i - x.k)) * (1 : Nat) + nat_lit 0)).getD (AV.v undef)) with
 | some x => x
 | none => (0 : Int)
 else (0 : Int)]
 [Col.ints IntKind.i64 fun (q : Nat) =>
 if (0 : Nat) + x.k ≤ q ∧ q < (0 : Nat) + x.k + (1 : Nat) then
 match asI IntKind.i64 ((nth [AV.v (Value.int IntKind.i64 (g (r + (IntKind.i64.wrap ((↑x.p : Int) - (1 : Int))).toNat)))] (((0 : Nat) + (q - ((0 : Nat) + x.k))) * (1 : Nat) + nat_lit 0)).getD (AV.v undef)) with
 | some x => x
 | none => (0 : Int)
 else x.5 q])
 (3 : TypeId))
 true,
 Blk.mk n6 (Cont.cells [AV.v (Value.int IntKind.i64 (g (r + (IntKind.i64.wrap ((↑x.p : Int) - (1 : Int))).toNat)))] (3 : Nat)) true]
 [Blk.mk hn (Cont.cells [AV.v (Value.int IntKind.i64 m), AV.v (Value.int IntKind.i64 (↑x_1.p : Int)), AV.sl (2 : Nat) an r (1 : Nat) len cap, AV.mp (1 : Nat) mn] (55 : Nat)) true, Blk.mk mn (Cont.mape (ByteArray × Int) kyM vlM mkM es clock) true, Blk.mk an (Cont.rows N [Col.ints IntKind.i64 g] (3 : TypeId)) true, Blk.mk x_1.n (Cont.rows x_1.cap [Col.ints IntKind.i64 x_1.g] (3 : TypeId)) true]))
 (hn = hn ∧ br (decide ((↑x.p : Int) < a.snd)) (hn = hn ∧ hn = hn ∧ hn = hn ∧ br ((↑x.p : Int) == (↑len : Int)) (∀ (n6 : Nat), n6 = n6 ∧ x.n = x.n ∧ x.cap = x.cap ∧ x.k ≤ x.cap ∧ (x.k + (1 : Nat) ≤ (9223372036854775807 : Nat) ∧ (x.k + (1 : Nat) + (x.k + (1 : Nat)) / (4 : Nat) + (192 : Nat)) * (8 : Nat) ≤ (281474976710656 : Nat)) ∧ ∀ (b7 : Bool) (n8 n9 : Nat), x.k + (1 : Nat) ≤ n9 → False) (hn = hn ∧ hn = hn ∧ hn = hn ∧ hn = hn ∧ ((0 : Int) ≤ IntKind.i64.wrap (IntKind.i64.wrap ((↑x.p : Int) + (1 : Int)) - (1 : Int)) ∧ IntKind.i64.wrap (IntKind.i64.wrap ((↑x.p : Int) + (1 : Int)) - (1 : Int)) < (↑len : Int)) ∧ an = an ∧ r + (IntKind.i64.wrap (IntKind.i64.wrap ((↑x.p : Int) + (1 : Int)) - (1 : Int))).toNat < N ∧ ∀ (n6 : Nat), n6 = n6 ∧ x.n = x.n ∧ x.cap = x.cap ∧ x.k ≤ x.cap ∧ (x.k + (1 : Nat) ≤ (9223372036854775807 : Nat) ∧ (x.k + (1 : Nat) + (x.k + (1 : Nat)) / (4 : Nat) + (192 : Nat)) * (8 : Nat) ≤ (281474976710656 : Nat)) ∧ ∀ (b7 : Bool) (n8 n9 : Nat), x.k + (1 : Nat) ≤ n9 → False)) (R (AV.tup [AV.sl (3 : Nat) x.n (0 : Nat) (1 : Nat) x.k x.cap, AV.v (Value.int IntKind.i64 (0 : Int))]) [Blk.mk hn (Cont.cells [AV.v (Value.int IntKind.i64 m), AV.v (Value.int IntKind.i64 (↑x.p : Int)), AV.sl (2 : Nat) an r (1 : Nat) len cap, AV.mp (1 : Nat) mn] (55 : Nat)) true, Blk.mk mn (Cont.mape (ByteArray × Int) kyM vlM mkM es clock) true, Blk.mk an (Cont.rows N [Col.ints IntKind.i64 g] (3 : TypeId)) true, Blk.mk x.n (Cont.rows x.cap [Col.ints IntKind.i64 x.g] (3 : TypeId)) true])))
 True) ∧
 ((∀ (a : ByteArray × Int) (b : Nat), (a, b) ∈ es → eqS nm a.fst = false) → R (AV.tup [AV.v (Value.slice none (0 : Nat) (0 : Nat)), AV.v (Value.int IntKind.i64 (8 : Int))]) [Blk.mk hn (Cont.cells [AV.v (Value.int IntKind.i64 m), AV.v (Value.int IntKind.i64 (↑at_ : Int)), AV.sl (2 : Nat) an r (1 : Nat) len cap, AV.mp (1 : Nat) mn] (55 : Nat)) true, Blk.mk mn (Cont.mape (ByteArray × Int) kyM vlM mkM es clock) true, Blk.mk an (Cont.rows N [Col.ints IntKind.i64 g] (3 : TypeId)) true]))) : LC Try.prog 24 [.ptr 0 hn 0, .v (.string nm)] [⟨hn, .cells [.v (.int .i64 m), .v (.int .i64 (at_ : Int)), .sl 2 an r 1 len cap, .mp 1 mn] 55, true⟩, ⟨mn, .mape (ByteArray × Int) kyM vlM mkM es clock, true⟩, ⟨an, .rows N [.ints .i64 g] 3, true⟩] R :=
  lc_of_exec (tbl := tbT) tab_ok tbT_ok mixed ((toJ at_ r g)) 2 _ Try.func24 rfl Try.ntmps24 (by decide) (by kernel_rfl) (Nat.le_of_ble_eq_true rfl) (@Eq.mpr (execN tab tbT ((toJ at_ r g)) 2 Try.f24.ntmps [] none 0 (body Try.f24) (argsT [.ptr 0 hn 0, .v (.string nm)] 0) [⟨hn, .cells [.v (.int .i64 m), .v (.int .i64 (at_ : Int)), .sl 2 an r 1 len cap, .mp 1 mn] 55, true⟩, ⟨mn, .mape (ByteArray × Int) kyM vlM mkM es clock, true⟩, ⟨an, .rows N [.ints .i64 g] 3, true⟩] (post Try.f24 tab (retK R))) _ (by kernel_rfl) h)


end Go.Proofs.Ytkjnkepdhbpnbaa

