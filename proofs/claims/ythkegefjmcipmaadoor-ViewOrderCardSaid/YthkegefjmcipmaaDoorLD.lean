/- View: the law of order: its condition. -/
import Derived.Test.YthkegefjmcipmaaDoorLA
namespace Go.Sp
open Go.Eng Go.Proofs.YthkegefjmcipmaaDoor
/-- Those in the rectangle, from the last one down to the i-th. -/
def downL (l : List Dw) (t lf b rt : Int) (i : Nat) : List Dw := ((l.drop i).filter fun d => inF t lf b rt d.row d.col).reverse

end Go.Sp
namespace Go.Eng
open Go Go.Sp Go.Proofs.YthkegefjmcipmaaDoor

def orJ (l : List Dw) (t lf b rt : Int) : Nat → TT → HH → LI := fun k T H =>
  bif Nat.beq k 0 then
    match H with
    | b0 :: b1 :: b2 :: _ =>
      .inv WX (fun x => ((8, .v (.int .i64 ((x.i : Int) - 1))) :: (7, .os 3 x.a x.n 0 0 4 (downL l t lf b rt x.i).length x.cap) :: keepT [1, 2, 3] T, [b0, b1, b2, wD dwD x.n (downL l t lf b rt x.i) x.S x.cap 42]))
        (fun x => x.i ≤ l.length ∧ emptyOk x.a x.n (downL l t lf b rt x.i).length x.cap ∧ (downL l t lf b rt x.i).length ≤ x.cap ∧ ∀ (p q : Nat), p < q → q < l.length → x.i ≤ q → ¬ ((dAt l dwD.z p).row = (dAt l dwD.z q).row ∧ (dAt l dwD.z p).col = (dAt l dwD.z q).col)) (fun x => x.i)
    | _ => .unroll 0
  else bif Nat.beq k 2 then
    match T.get 8 with
    | some (.v (.int _ i)) => .inv Nat (fun q => ((9, .v (.int .i64 (q : Int))) :: keepT [1, 2, 3, 7, 8] T, H)) (fun q => (q : Int) ≤ i ∧ ∀ p : Nat, p < q → ¬ ((dAt l dwD.z p).row = (dAt l dwD.z i.toNat).row ∧ (dAt l dwD.z p).col = (dAt l dwD.z i.toNat).col)) (fun q => i.toNat - q)
    | _ => .unroll 0
  else .unroll 0

end Go.Eng
namespace Go.Proofs.YthkegefjmcipmaaDoor
open Go Go.Eng Go.Sp
set_option linter.unusedVariables false
set_option linter.unusedSimpArgs false

def tbLo : Tbl := (18, .pure pinH) :: tbLd

theorem tbLo_ok : TblOk Tryd.prog tbLo := ⟨pin_ok, tbLd_ok⟩


set_option maxRecDepth 100000 in
theorem lo_vc (o_ : Obj) (t lf b rt : Int) (l : List Dw) (a : Option Addr) (n o cap : Nat) (S : List Nat) (most : Int) {R : AV → Prop} (h : (∀ (n1 : Nat), n1 = n1 ∧ br (decide (areaF t lf b rt > (300 : Int) ∧ areaF t lf b rt ≤ (4096 : Int)) || decide (l.length > (60 : Nat))) (R (AV.v (Value.bool true))) ((∃ (x : WX), (x.i ≤ l.length ∧ emptyOk x.a x.n (downL l t lf b rt x.i).length x.cap ∧ (downL l t lf b rt x.i).length ≤ x.cap ∧ ∀ (p q : Nat), p < q → q < l.length → x.i ≤ q → ¬((dAt l dwD.z p).row = (dAt l dwD.z q).row ∧ (dAt l dwD.z p).col = (dAt l dwD.z q).col)) ∧ ((AV.v (Value.int IntKind.i64 (IntKind.i64.wrap ((↑l.length : Int) - (1 : Int))))).den = (AV.v (Value.int IntKind.i64 ((↑x.i : Int) - (1 : Int)))).den ∧ (AV.v (Value.slice none (0 : Nat) (0 : Nat))).den = (AV.os (3 : Nat) x.a x.n (0 : Nat) (0 : Nat) (4 : Nat) (downL l t lf b rt x.i).length x.cap).den ∧ (AV.os (1 : Nat) a n o (0 : Nat) (4 : Nat) l.length cap).den = (AV.os (1 : Nat) a n o (0 : Nat) (4 : Nat) l.length cap).den ∧ (AV.v (Value.int IntKind.i64 most)).den = (AV.v (Value.int IntKind.i64 most)).den ∧ (AV.ptr (2 : Nat) n1 (0 : Nat)).den = (AV.ptr (2 : Nat) n1 (0 : Nat)).den ∧ True) ∧ LeH [Blk.mk GT (Cont.obj o_) false, Blk.mk n (Cont.dl Dw dwD o l S none none) false, Blk.mk n1 (Cont.cells [AV.v (Value.int IntKind.i64 t), AV.v (Value.int IntKind.i64 lf), AV.v (Value.int IntKind.i64 b), AV.v (Value.int IntKind.i64 rt)] (23 : Nat)) true] [Blk.mk GT (Cont.obj o_) false, Blk.mk n (Cont.dl Dw dwD o l S none none) false, Blk.mk n1 (Cont.cells [AV.v (Value.int IntKind.i64 t), AV.v (Value.int IntKind.i64 lf), AV.v (Value.int IntKind.i64 b), AV.v (Value.int IntKind.i64 rt)] (23 : Nat)) true, Blk.mk x.n (Cont.dl Dw dwD (0 : Nat) (downL l t lf b rt x.i) x.S (some (x.cap, (42 : TypeId))) none) true]) ∧ ∀ (x : WX), (x.i ≤ l.length ∧ emptyOk x.a x.n (downL l t lf b rt x.i).length x.cap ∧ (downL l t lf b rt x.i).length ≤ x.cap ∧ ∀ (p q : Nat), p < q → q < l.length → x.i ≤ q → ¬((dAt l dwD.z p).row = (dAt l dwD.z q).row ∧ (dAt l dwD.z p).col = (dAt l dwD.z q).col)) → br (decide ((↑x.i : Int) - (1 : Int) ≥ (0 : Int))) ((∃ (x_1 : Nat), ((↑x_1 : Int) ≤ (↑x.i : Int) - (1 : Int) ∧ ∀ (p : Nat), p < x_1 → ¬((dAt l dwD.z p).row = (dAt l dwD.z ((↑x.i : Int) - (1 : Int)).toNat).row ∧ (dAt l dwD.z p).col = (dAt l dwD.z ((↑x.i : Int) - (1 : Int)).toNat).col)) ∧ ((AV.v (Value.int IntKind.i64 (0 : Int))).den = (AV.v (Value.int IntKind.i64 (↑x_1 : Int))).den ∧ (AV.os (1 : Nat) a n o (0 : Nat) (4 : Nat) l.length cap).den = (AV.os (1 : Nat) a n o (0 : Nat) (4 : Nat) l.length cap).den ∧ (AV.v (Value.int IntKind.i64 most)).den = (AV.v (Value.int IntKind.i64 most)).den ∧ (AV.ptr (2 : Nat) n1 (0 : Nat)).den = (AV.ptr (2 : Nat) n1 (0 : Nat)).den ∧ (AV.os (3 : Nat) x.a x.n (0 : Nat) (0 : Nat) (4 : Nat) (downL l t lf b rt x.i).length x.cap).den = (AV.os (3 : Nat) x.a x.n (0 : Nat) (0 : Nat) (4 : Nat) (downL l t lf b rt x.i).length x.cap).den ∧ (AV.v (Value.int IntKind.i64 ((↑x.i : Int) - (1 : Int)))).den = (AV.v (Value.int IntKind.i64 ((↑x.i : Int) - (1 : Int)))).den ∧ True) ∧ LeH [Blk.mk GT (Cont.obj o_) false, Blk.mk n (Cont.dl Dw dwD o l S none none) false, Blk.mk n1 (Cont.cells [AV.v (Value.int IntKind.i64 t), AV.v (Value.int IntKind.i64 lf), AV.v (Value.int IntKind.i64 b), AV.v (Value.int IntKind.i64 rt)] (23 : Nat)) true, Blk.mk x.n (Cont.dl Dw dwD (0 : Nat) (downL l t lf b rt x.i) x.S (some (x.cap, (42 : TypeId))) none) true] [Blk.mk GT (Cont.obj o_) false, Blk.mk n (Cont.dl Dw dwD o l S none none) false, Blk.mk n1 (Cont.cells [AV.v (Value.int IntKind.i64 t), AV.v (Value.int IntKind.i64 lf), AV.v (Value.int IntKind.i64 b), AV.v (Value.int IntKind.i64 rt)] (23 : Nat)) true, Blk.mk x.n (Cont.dl Dw dwD (0 : Nat) (downL l t lf b rt x.i) x.S (some (x.cap, (42 : TypeId))) none) true]) ∧ ∀ (n4 : Nat), ((↑n4 : Int) ≤ (↑x.i : Int) - (1 : Int) ∧ ∀ (p : Nat), p < n4 → ¬((dAt l dwD.z p).row = (dAt l dwD.z ((↑x.i : Int) - (1 : Int)).toNat).row ∧ (dAt l dwD.z p).col = (dAt l dwD.z ((↑x.i : Int) - (1 : Int)).toNat).col)) → br (decide ((↑n4 : Int) < (↑x.i : Int) - (1 : Int))) (((0 : Int) ≤ (↑n4 : Int) ∧ (↑n4 : Int) < (↑l.length : Int)) ∧ n = n ∧ o = o ∧ (0 : Nat) + (↑n4 : Int).toNat < l.length ∧ ((0 : Int) ≤ (↑x.i : Int) - (1 : Int) ∧ (↑x.i : Int) - (1 : Int) < (↑l.length : Int)) ∧ n = n ∧ o = o ∧ (0 : Nat) + ((↑x.i : Int) - (1 : Int)).toNat < l.length ∧ br ((dAt l dwD.z ((0 : Nat) + (↑n4 : Int).toNat)).row == (dAt l dwD.z ((0 : Nat) + ((↑x.i : Int) - (1 : Int)).toNat)).row && ((dAt l dwD.z ((0 : Nat) + (↑n4 : Int).toNat)).col == (dAt l dwD.z ((0 : Nat) + ((↑x.i : Int) - (1 : Int)).toNat)).col && true)) (R (AV.v (Value.bool true))) (∃ (x' : Nat), ((↑x' : Int) ≤ (↑x.i : Int) - (1 : Int) ∧ ∀ (p : Nat), p < x' → ¬((dAt l dwD.z p).row = (dAt l dwD.z ((↑x.i : Int) - (1 : Int)).toNat).row ∧ (dAt l dwD.z p).col = (dAt l dwD.z ((↑x.i : Int) - (1 : Int)).toNat).col)) ∧ ((↑x.i : Int) - (1 : Int)).toNat - x' < ((↑x.i : Int) - (1 : Int)).toNat - n4 ∧ ((AV.v (Value.int IntKind.i64 (IntKind.i64.wrap ((↑n4 : Int) + (1 : Int))))).den = (AV.v (Value.int IntKind.i64 (↑x' : Int))).den ∧ (AV.os (1 : Nat) a n o (0 : Nat) (4 : Nat) l.length cap).den = (AV.os (1 : Nat) a n o (0 : Nat) (4 : Nat) l.length cap).den ∧ (AV.v (Value.int IntKind.i64 most)).den = (AV.v (Value.int IntKind.i64 most)).den ∧ (AV.ptr (2 : Nat) n1 (0 : Nat)).den = (AV.ptr (2 : Nat) n1 (0 : Nat)).den ∧ (AV.os (3 : Nat) x.a x.n (0 : Nat) (0 : Nat) (4 : Nat) (downL l t lf b rt x.i).length x.cap).den = (AV.os (3 : Nat) x.a x.n (0 : Nat) (0 : Nat) (4 : Nat) (downL l t lf b rt x.i).length x.cap).den ∧ (AV.v (Value.int IntKind.i64 ((↑x.i : Int) - (1 : Int)))).den = (AV.v (Value.int IntKind.i64 ((↑x.i : Int) - (1 : Int)))).den ∧ True) ∧ LeH [Blk.mk GT (Cont.obj o_) false, Blk.mk n (Cont.dl Dw dwD o l S none none) false, Blk.mk n1 (Cont.cells [AV.v (Value.int IntKind.i64 t), AV.v (Value.int IntKind.i64 lf), AV.v (Value.int IntKind.i64 b), AV.v (Value.int IntKind.i64 rt)] (23 : Nat)) true, Blk.mk x.n (Cont.dl Dw dwD (0 : Nat) (downL l t lf b rt x.i) x.S (some (x.cap, (42 : TypeId))) none) true] [Blk.mk GT (Cont.obj o_) false, Blk.mk n (Cont.dl Dw dwD o l S none none) false, Blk.mk n1 (Cont.cells [AV.v (Value.int IntKind.i64 t), AV.v (Value.int IntKind.i64 lf), AV.v (Value.int IntKind.i64 b), AV.v (Value.int IntKind.i64 rt)] (23 : Nat)) true, Blk.mk x.n (Cont.dl Dw dwD (0 : Nat) (downL l t lf b rt x.i) x.S (some (x.cap, (42 : TypeId))) none) true])) (n1 = n1 ∧ ((0 : Int) ≤ (↑x.i : Int) - (1 : Int) ∧ (↑x.i : Int) - (1 : Int) < (↑l.length : Int)) ∧ n = n ∧ o = o ∧ (0 : Nat) + ((↑x.i : Int) - (1 : Int)).toNat < l.length ∧ br (inF t lf b rt (dAt l dwD.z ((0 : Nat) + ((↑x.i : Int) - (1 : Int)).toNat)).row (dAt l dwD.z ((0 : Nat) + ((↑x.i : Int) - (1 : Int)).toNat)).col) (((0 : Int) ≤ (↑x.i : Int) - (1 : Int) ∧ (↑x.i : Int) - (1 : Int) < (↑l.length : Int)) ∧ n = n ∧ o = o ∧ (0 : Nat) + ((↑x.i : Int) - (1 : Int)).toNat < l.length ∧ ∀ (n6 : Nat), n6 = n6 ∧ x.n = x.n ∧ (0 : Nat) = (0 : Nat) ∧ (0 : Nat) = (0 : Nat) ∧ (downL l t lf b rt x.i).length ≤ (downL l t lf b rt x.i).length ∧ x.cap ≤ x.cap ∧ ((downL l t lf b rt x.i).length = (0 : Nat) → x.cap = (0 : Nat) ∨ x.a = some (Addr.mk x.n (0 : Nat) none)) ∧ (downL l t lf b rt x.i).length ≤ x.cap ∧ ((downL l t lf b rt x.i).length + (1 : Nat) ≤ (9223372036854775807 : Nat) ∧ ((downL l t lf b rt x.i).length + (1 : Nat) + ((downL l t lf b rt x.i).length + (1 : Nat)) / (4 : Nat) + (192 : Nat)) * (40 : Nat) ≤ (281474976710656 : Nat)) ∧ ∀ (a' : Option Addr) (n8 n9 : Nat) (S' : List Nat), (downL l t lf b rt x.i).length + (1 : Nat) ≤ n9 → emptyOk a' n8 ((downL l t lf b rt x.i).length + (1 : Nat)) n9 → ∃ (x' : WX), (x'.i ≤ l.length ∧ emptyOk x'.a x'.n (downL l t lf b rt x'.i).length x'.cap ∧ (downL l t lf b rt x'.i).length ≤ x'.cap ∧ ∀ (p q : Nat), p < q → q < l.length → x'.i ≤ q → ¬((dAt l dwD.z p).row = (dAt l dwD.z q).row ∧ (dAt l dwD.z p).col = (dAt l dwD.z q).col)) ∧ x'.i < x.i ∧ ((AV.v (Value.int IntKind.i64 (IntKind.i64.wrap ((↑x.i : Int) - (1 : Int) - (1 : Int))))).den = (AV.v (Value.int IntKind.i64 ((↑x'.i : Int) - (1 : Int)))).den ∧ (AV.os (3 : Nat) a' n8 (0 : Nat) (0 : Nat) (4 : Nat) ((downL l t lf b rt x.i).length + (1 : Nat)) n9).den = (AV.os (3 : Nat) x'.a x'.n (0 : Nat) (0 : Nat) (4 : Nat) (downL l t lf b rt x'.i).length x'.cap).den ∧ (AV.os (1 : Nat) a n o (0 : Nat) (4 : Nat) l.length cap).den = (AV.os (1 : Nat) a n o (0 : Nat) (4 : Nat) l.length cap).den ∧ (AV.v (Value.int IntKind.i64 most)).den = (AV.v (Value.int IntKind.i64 most)).den ∧ (AV.ptr (2 : Nat) n1 (0 : Nat)).den = (AV.ptr (2 : Nat) n1 (0 : Nat)).den ∧ True) ∧ LeH [Blk.mk GT (Cont.obj o_) false, Blk.mk n (Cont.dl Dw dwD o l S none none) false, Blk.mk n1 (Cont.cells [AV.v (Value.int IntKind.i64 t), AV.v (Value.int IntKind.i64 lf), AV.v (Value.int IntKind.i64 b), AV.v (Value.int IntKind.i64 rt)] (23 : Nat)) true, Blk.mk n8 (Cont.dl Dw dwD (0 : Nat) (List.take (downL l t lf b rt x.i).length (downL l t lf b rt x.i) ++ [Dw.mk (dAt l dwD.z ((0 : Nat) + ((↑x.i : Int) - (1 : Int)).toNat)).row (dAt l dwD.z ((0 : Nat) + ((↑x.i : Int) - (1 : Int)).toNat)).col (dAt l dwD.z ((0 : Nat) + ((↑x.i : Int) - (1 : Int)).toNat)).text (dAt l dwD.z ((0 : Nat) + ((↑x.i : Int) - (1 : Int)).toNat)).kind]) S' (some (n9, (42 : Nat))) none) true, Blk.mk n6 (Cont.cells [AV.v (Value.int IntKind.i64 (dAt l dwD.z ((0 : Nat) + ((↑x.i : Int) - (1 : Int)).toNat)).row), AV.v (Value.int IntKind.i64 (dAt l dwD.z ((0 : Nat) + ((↑x.i : Int) - (1 : Int)).toNat)).col), AV.v (Value.string (dAt l dwD.z ((0 : Nat) + ((↑x.i : Int) - (1 : Int)).toNat)).text), AV.v (Value.int IntKind.i64 (dAt l dwD.z ((0 : Nat) + ((↑x.i : Int) - (1 : Int)).toNat)).kind)] (42 : Nat)) true] [Blk.mk GT (Cont.obj o_) false, Blk.mk n (Cont.dl Dw dwD o l S none none) false, Blk.mk n1 (Cont.cells [AV.v (Value.int IntKind.i64 t), AV.v (Value.int IntKind.i64 lf), AV.v (Value.int IntKind.i64 b), AV.v (Value.int IntKind.i64 rt)] (23 : Nat)) true, Blk.mk x'.n (Cont.dl Dw dwD (0 : Nat) (downL l t lf b rt x'.i) x'.S (some (x'.cap, (42 : TypeId))) none) true]) (∃ (x' : WX), (x'.i ≤ l.length ∧ emptyOk x'.a x'.n (downL l t lf b rt x'.i).length x'.cap ∧ (downL l t lf b rt x'.i).length ≤ x'.cap ∧ ∀ (p q : Nat), p < q → q < l.length → x'.i ≤ q → ¬((dAt l dwD.z p).row = (dAt l dwD.z q).row ∧ (dAt l dwD.z p).col = (dAt l dwD.z q).col)) ∧ x'.i < x.i ∧ ((AV.v (Value.int IntKind.i64 (IntKind.i64.wrap ((↑x.i : Int) - (1 : Int) - (1 : Int))))).den = (AV.v (Value.int IntKind.i64 ((↑x'.i : Int) - (1 : Int)))).den ∧ (AV.os (3 : Nat) x.a x.n (0 : Nat) (0 : Nat) (4 : Nat) (downL l t lf b rt x.i).length x.cap).den = (AV.os (3 : Nat) x'.a x'.n (0 : Nat) (0 : Nat) (4 : Nat) (downL l t lf b rt x'.i).length x'.cap).den ∧ (AV.os (1 : Nat) a n o (0 : Nat) (4 : Nat) l.length cap).den = (AV.os (1 : Nat) a n o (0 : Nat) (4 : Nat) l.length cap).den ∧ (AV.v (Value.int IntKind.i64 most)).den = (AV.v (Value.int IntKind.i64 most)).den ∧ (AV.ptr (2 : Nat) n1 (0 : Nat)).den = (AV.ptr (2 : Nat) n1 (0 : Nat)).den ∧ True) ∧ LeH [Blk.mk GT (Cont.obj o_) false, Blk.mk n (Cont.dl Dw dwD o l S none none) false, Blk.mk n1 (Cont.cells [AV.v (Value.int IntKind.i64 t), AV.v (Value.int IntKind.i64 lf), AV.v (Value.int IntKind.i64 b), AV.v (Value.int IntKind.i64 rt)] (23 : Nat)) true, Blk.mk x.n (Cont.dl Dw dwD (0 : Nat) (downL l t lf b rt x.i) x.S (some (x.cap, (42 : TypeId))) none) true] [Blk.mk GT (Cont.obj o_) false, Blk.mk n (Cont.dl Dw dwD o l S none none) false, Blk.mk n1 (Cont.cells [AV.v (Value.int IntKind.i64 t), AV.v (Value.int IntKind.i64 lf), AV.v (Value.int IntKind.i64 b), AV.v (Value.int IntKind.i64 rt)] (23 : Nat)) true, Blk.mk x'.n (Cont.dl Dw dwD (0 : Nat) (downL l t lf b rt x'.i) x'.S (some (x'.cap, (42 : TypeId))) none) true]))) (n1 = n1 ∧ GT = GT ∧ tabOk o_ ∧ ∃ (l_1 : List Dw), ∃ (S_1 : List Nat), ∃ (wr : Option (Nat × TypeId)), ∃ (w : Bool), some (Blk.mk n (Cont.dl Dw dwD o l S none none) false) = some (Blk.mk n (Cont.dl Dw dwD o l_1 S_1 wr none) w) ∧ l.length = l_1.length ∧ l_1.length ≤ (1048576 : Nat) ∧ (∀ (d : Dw), d ∈ l_1 → d.text.size ≤ (9223372036854775807 : Nat)) ∧ (∀ (e : Int), e = badV t lf b rt most → e ≠ (0 : Int) → n1 = n1 ∧ GT = GT ∧ tabOk o_ ∧ ∃ (l_2 : List Dw), ∃ (S : List Nat), ∃ (wr : Option (Nat × TypeId)), ∃ (w : Bool), some (Blk.mk x.n (Cont.dl Dw dwD (0 : Nat) (downL l t lf b rt x.i) x.S (some (x.cap, (42 : TypeId))) none) true) = some (Blk.mk x.n (Cont.dl Dw dwD (0 : Nat) l_2 S wr none) w) ∧ (downL l t lf b rt x.i).length = l_2.length ∧ l_2.length ≤ (1048576 : Nat) ∧ (∀ (d : Dw), d ∈ l_2 → d.text.size ≤ (9223372036854775807 : Nat)) ∧ (∀ (e_1 : Int), e_1 = badV t lf b rt most → e_1 ≠ (0 : Int) → br (e == e_1) (R (AV.v (Value.bool true))) (R (AV.v (Value.bool false)))) ∧ (badV t lf b rt most = (0 : Int) → ∀ (a : Option Addr) (n17 n18 : Nat) (S' : List Nat), False)) ∧ (badV t lf b rt most = (0 : Int) → ∀ (a : Option Addr) (n10 n11 : Nat) (S' : List Nat), n1 = n1 ∧ GT = GT ∧ tabOk o_ ∧ ∃ (l_2 : List Dw), ∃ (S : List Nat), ∃ (wr : Option (Nat × TypeId)), ∃ (w : Bool), some (Blk.mk x.n (Cont.dl Dw dwD (0 : Nat) (downL l t lf b rt x.i) x.S (some (x.cap, (42 : TypeId))) none) true) = some (Blk.mk x.n (Cont.dl Dw dwD (0 : Nat) l_2 S wr none) w) ∧ (downL l t lf b rt x.i).length = l_2.length ∧ l_2.length ≤ (1048576 : Nat) ∧ (∀ (d : Dw), d ∈ l_2 → d.text.size ≤ (9223372036854775807 : Nat)) ∧ (∀ (e : Int), e = badV t lf b rt most → e ≠ (0 : Int) → False) ∧ (badV t lf b rt most = (0 : Int) → ∀ (a : Option Addr) (n19 n20 : Nat) (S'_1 : List Nat), (4 : Nat) ≠ (5 : Nat) ∧ ∃ (l : List ByteArray), ∃ (l' : List ByteArray), ∃ (S : List Nat), ∃ (S'_2 : List Nat), ∃ (wr : Option (Nat × TypeId)), ∃ (wr' : Option (Nat × TypeId)), ∃ (w : Bool), ∃ (w' : Bool), some (Blk.mk n10 (Cont.dl ByteArray strD (0 : Nat) (linesL l_1 most t (b - t + (1 : Int)).toNat lf (rt - lf + (1 : Int)).toNat) S' none none) true) = some (Blk.mk n10 (Cont.dl ByteArray strD (0 : Nat) l S wr none) w) ∧ some (Blk.mk n19 (Cont.dl ByteArray strD (0 : Nat) (linesL l_2 most t (b - t + (1 : Int)).toNat lf (rt - lf + (1 : Int)).toNat) S'_1 none none) true) = some (Blk.mk n19 (Cont.dl ByteArray strD (0 : Nat) l' S'_2 wr' none) w') ∧ (b - t + (1 : Int)).toNat + (2 : Nat) = l.length ∧ (b - t + (1 : Int)).toNat + (2 : Nat) = l'.length ∧ l.length ≤ (1048578 : Nat) ∧ l = l' ∧ R (AV.v (Value.bool true)))))))) : LC Tryd.prog 6 [.agg [.v (.int .i64 t), .v (.int .i64 lf), .v (.int .i64 b), .v (.int .i64 rt)], .os 1 a n o 0 4 l.length cap, .v (.int .i64 most)] [tB GT o_, rD dwD n o l S false] (fun z_ _ => R z_) :=
  lc_of_exec (tbl := tbLo) tab_ok tbLo_ok mixed ((orJ l t lf b rt)) 2 _ Tryd.func6 rfl Tryd.ntmps6 (by decide) (by kernel_rfl) (Nat.le_of_ble_eq_true rfl) (@Eq.mpr (execN tab tbLo ((orJ l t lf b rt)) 2 Tryd.f6.ntmps [] none 0 (body Tryd.f6) (argsT [.agg [.v (.int .i64 t), .v (.int .i64 lf), .v (.int .i64 b), .v (.int .i64 rt)], .os 1 a n o 0 4 l.length cap, .v (.int .i64 most)] 0) [tB GT o_, rD dwD n o l S false] (post Tryd.f6 tab (retK (fun z_ _ => R z_)))) _ (by kernel_rfl) h)


end Go.Proofs.YthkegefjmcipmaaDoor
namespace Go.Eng
open Go Go.Sp Go.Proofs.YthkegefjmcipmaaDoor

theorem downL_end (l : List Dw) (t lf b rt : Int) : downL l t lf b rt l.length = [] := by simp [downL]
theorem downL_one (l : List Dw) (t lf b rt : Int) {i : Nat} (h : i < l.length) : downL l t lf b rt i = downL l t lf b rt (i + 1) ++ (if inF t lf b rt (dAt l dwD.z i).row (dAt l dwD.z i).col then [dAt l dwD.z i] else []) := by
  unfold downL
  rw [List.drop_eq_getElem_cons h, dAt_lt h, List.filter_cons]
  split
  · rw [List.reverse_cons]
  · rw [List.append_nil]

/-- No two at one place. -/
def uniqD (l : List Dw) : Prop := ∀ d ∈ l, ∀ e ∈ l, d.row = e.row → d.col = e.col → d = e

theorem atD_uniq {l : List Dw} (hu : uniqD l) {d : Dw} (hd : d ∈ l) : atD l d.row d.col = d := by
  rcases atD_in l d.row d.col with h | ⟨h, _⟩
  · obtain ⟨g1, g2⟩ := atD_place l d.row d.col
    exact hu _ h _ hd g1 g2
  · exact absurd ⟨rfl, rfl⟩ (h d hd)

theorem atD_down {l : List Dw} (hu : uniqD l) {t lf b rt : Int} {r c : Int} (h : inF t lf b rt r c = true) : atD (downL l t lf b rt 0) r c = atD l r c := by
  have hm : ∀ d, d ∈ downL l t lf b rt 0 ↔ d ∈ l ∧ inF t lf b rt d.row d.col = true := fun d => by
    unfold downL
    rw [List.mem_reverse, List.drop_zero, List.mem_filter]
  have hu2 : uniqD (downL l t lf b rt 0) := fun d hd e he => hu d ((hm d).1 hd).1 e ((hm e).1 he).1
  obtain ⟨g1, g2⟩ := atD_place l r c
  rcases atD_in l r c with h1 | ⟨h1, h2⟩
  · have hd : atD l r c ∈ downL l t lf b rt 0 := (hm _).2 ⟨h1, by rw [g1, g2]; exact h⟩
    have := atD_uniq hu2 hd
    rw [g1, g2] at this
    exact this
  · rcases atD_in (downL l t lf b rt 0) r c with h3 | ⟨_, h4⟩
    · exact absurd (atD_place _ r c) (h1 _ ((hm _).1 h3).1)
    · rw [h2, h4]

theorem colW_cong {l l' : List Dw} {most t : Int} {n : Nat} {c : Int} (h : ∀ i : Nat, i < n → atD l (t + (i : Int)) c = atD l' (t + (i : Int)) c) : colW l most t n c = colW l' most t n c := by
  have key : ∀ B : Int, colW l most t n c ≤ B ↔ colW l' most t n c ≤ B := fun B => by
    rw [colW_le, colW_le]
    exact ⟨fun ⟨h1, h2⟩ => ⟨h1, fun i hi => by rw [← h i hi]; exact h2 i hi⟩, fun ⟨h1, h2⟩ => ⟨h1, fun i hi => by rw [h i hi]; exact h2 i hi⟩⟩
  have k1 := (key _).2 (Int.le_refl _)
  have k2 := (key _).1 (Int.le_refl _)
  omega

theorem linesL_cong {l l' : List Dw} {most t : Int} {n : Nat} {lf : Int} {m : Nat} (h : ∀ i j : Nat, i < n → j < m → atD l (t + (i : Int)) (lf + (j : Int)) = atD l' (t + (i : Int)) (lf + (j : Int))) : linesL l most t n lf m = linesL l' most t n lf m := by
  have hw : ∀ j : Nat, j < m → colW l most t n (lf + (j : Int)) = colW l' most t n (lf + (j : Int)) := fun j hj => colW_cong fun i hi => h i j hi hj
  have e1 : headPs l most t n lf m = headPs l' most t n lf m := List.map_congr_left fun j hj => by rw [hw j (List.mem_range.1 hj)]
  have e2 : rulePs l most t n lf m = rulePs l' most t n lf m := List.map_congr_left fun j hj => by rw [hw j (List.mem_range.1 hj)]
  have e3 : ∀ i : Nat, i < n → rowPs l most t n lf m (t + (i : Int)) = rowPs l' most t n lf m (t + (i : Int)) := fun i hi => List.map_congr_left fun j hj => by rw [hw j (List.mem_range.1 hj), h i j hi (List.mem_range.1 hj)]
  unfold linesL
  rw [e1, e2]
  congr 2
  exact List.map_congr_left fun i hi => by rw [e3 i (List.mem_range.1 hi)]

end Go.Eng
namespace Go.Proofs.YthkegefjmcipmaaDoor
open Go Go.Eng Go.Sp
set_option linter.unusedVariables false
set_option linter.unusedSimpArgs false

set_option maxHeartbeats 1000000 in
theorem lo_lc (o_ : Obj) (ho : tabOk o_) (t lf b rt : Int) (l : List Dw) (a : Option Addr) (n o cap : Nat) (S : List Nat) (most : Int) (hl : l.length ≤ 9223372036854775807) (hs : ∀ d ∈ l, d.text.size ≤ 9223372036854775807) :
    LC Tryd.prog 6 [.agg [.v (.int .i64 t), .v (.int .i64 lf), .v (.int .i64 b), .v (.int .i64 rt)], .os 1 a n o 0 4 l.length cap, .v (.int .i64 most)] [tB GT o_, rD dwD n o l S false] (fun z _ => z = .v (.bool true)) :=
  lo_vc o_ t lf b rt l a n o cap S most (by
    simp only [true_and, and_true, Int.toNat_natCast, Nat.zero_add, Nat.le_refl]
    intro n1
    refine br_intro (fun _ => trivial) (fun hb => ?_)
    have hl2 : l.length ≤ 60 := by
      simp only [Bool.or_eq_false_iff, decide_eq_false_iff_not] at hb
      omega
    have ed := downL_end l t lf b rt
    have dl : ∀ i, (downL l t lf b rt i).length ≤ l.length := fun i => by
      unfold downL
      rw [List.length_reverse]
      have h1 := List.length_filter_le (fun d : Dw => inF t lf b rt d.row d.col) (l.drop i)
      have h2 : (l.drop i).length = l.length - i := List.length_drop
      omega
    refine ⟨⟨⟨l.length, none, 0, 0, []⟩, ⟨Nat.le_refl _, fun _ => .inl rfl, by rw [ed]; exact Nat.le_refl _, fun p q h1 h2 h3 => absurd h2 (by show ¬ q < l.length; have h3 : l.length ≤ q := h3; omega)⟩, ⟨by rw [w64 (by omega)], by rw [ed]; rfl⟩, ?_⟩, fun x hx => ?_⟩
    · rw [ed]
      exact LeH.more (H := [_, _, _]) (b := wD dwD 0 [] [] 0 42) rfl fun w => dl_nil dwD_ok (.inr ⟨_, rfl, rfl⟩)
    obtain ⟨x1, x2, x3, x4⟩ := hx
    refine br_intro (fun hge => ?_) (fun hlt => ?_)
    · have hge := of_decide_eq_true hge
      have ei : ((x.i : Int) - 1).toNat = x.i - 1 := by omega
      have hd1 := downL_one l t lf b rt (i := x.i - 1) (by omega)
      rw [show x.i - 1 + 1 = x.i by omega] at hd1
      have hdl := dl x.i
      simp only [ei]
      refine ⟨⟨0, ⟨by omega, fun p hp => absurd hp (Nat.not_lt_zero _)⟩, rfl, LeH.refl _⟩, fun q hq => br_intro (fun hql => ?_) (fun hqg => ?_)⟩
      · have hql := of_decide_eq_true hql
        refine ⟨⟨by omega, by omega⟩, by omega, ⟨by omega, by omega⟩, by omega, br_intro (fun _ => trivial) (fun hne => ⟨q + 1, ⟨by omega, fun p hp => ?_⟩, by omega, by rw [w64 (by omega)]; rfl, LeH.refl _⟩)⟩
        rcases Nat.lt_or_ge p q with h1 | h1
        · exact hq.2 p h1
        · obtain rfl : p = q := by omega
          rintro ⟨e1, e2⟩
          rw [e1, e2] at hne
          simp at hne
      · have hqe : q = x.i - 1 := by have := of_decide_eq_false hqg; have := hq.1; omega
        have hn : ∀ (p q : Nat), p < q → q < l.length → x.i - 1 ≤ q → ¬ ((dAt l dwD.z p).row = (dAt l dwD.z q).row ∧ (dAt l dwD.z p).col = (dAt l dwD.z q).col) := fun p r h1 h2 h3 => by
          rcases Nat.lt_or_ge r x.i with h4 | h4
          · obtain rfl : r = x.i - 1 := by omega
            exact hq.2 p (by omega)
          · exact x4 p r h1 h2 h4
        refine ⟨⟨by omega, by omega⟩, by omega, br_intro (fun hin => ?_) (fun hin => ?_)⟩
        · rw [if_pos hin] at hd1
          have hdl1 : (downL l t lf b rt (x.i - 1)).length = (downL l t lf b rt x.i).length + 1 := by rw [hd1, List.length_append]; rfl
          refine ⟨⟨by omega, by omega⟩, by omega, fun n6 => ⟨x2, x3, ⟨by omega, by omega⟩, fun a' n8 n9 S' k1 k2 => ⟨⟨x.i - 1, a', n8, n9, S'⟩, ⟨by show x.i - 1 ≤ _; omega, by show emptyOk a' n8 (downL l t lf b rt (x.i - 1)).length n9; rw [hdl1]; exact k2, by show (downL l t lf b rt (x.i - 1)).length ≤ n9; rw [hdl1]; exact k1, hn⟩, by show x.i - 1 < x.i; omega, ⟨by rw [w64 (by omega)]; simp only [AV.den]; congr 1; omega, by rw [hdl1]⟩, ?_⟩⟩⟩
          rw [List.take_length]
          exact leAt [0, 1, 2, 3] (by decide) ⟨LeB.refl _, LeB.refl _, LeB.refl _, by rw [hd1]; exact LeB.refl _, trivial⟩
        · rw [if_neg (by rw [hin]; decide), List.append_nil] at hd1
          refine ⟨⟨x.i - 1, x.a, x.n, x.cap, x.S⟩, ⟨by show x.i - 1 ≤ _; omega, by show emptyOk x.a x.n (downL l t lf b rt (x.i - 1)).length x.cap; rw [hd1]; exact x2, by show (downL l t lf b rt (x.i - 1)).length ≤ x.cap; rw [hd1]; exact x3, hn⟩, by show x.i - 1 < x.i; omega, ⟨by rw [w64 (by omega)]; simp only [AV.den]; congr 1; omega, by rw [hd1]⟩, ?_⟩
          rw [hd1]
          exact LeH.refl _
    · have hx0 : x.i = 0 := by have := of_decide_eq_false hlt; omega
      have hs2 : ∀ d ∈ downL l t lf b rt x.i, d.text.size ≤ 9223372036854775807 := fun d hd => by
        unfold downL at hd
        rw [List.mem_reverse, List.mem_filter] at hd
        exact hs d (List.mem_of_mem_drop hd.1)
      have hdl := dl x.i
      have hu : uniqD l := fun d hd e he h1 h2 => by
        obtain ⟨p, hp, rfl⟩ := List.mem_iff_getElem.1 hd
        obtain ⟨q, hq, rfl⟩ := List.mem_iff_getElem.1 he
        rcases Nat.lt_trichotomy p q with h3 | h3 | h3
        · have := x4 p q h3 hq (by omega)
          rw [dAt_lt hp, dAt_lt hq] at this
          exact absurd ⟨h1, h2⟩ this
        · subst h3; rfl
        · have := x4 q p h3 hp (by omega)
          rw [dAt_lt hp, dAt_lt hq] at this
          exact absurd ⟨h1.symm, h2.symm⟩ this
      refine ⟨ho, l, S, none, false, rfl, rfl, by omega, hs, fun e he h0 => ⟨ho, downL l t lf b rt x.i, x.S, some (x.cap, 42), true, rfl, rfl, by omega, hs2, fun e' he' h0' => ?_, fun h => absurd h (by omega)⟩, fun h0 a2 n10 n11 S2 => ⟨ho, downL l t lf b rt x.i, x.S, some (x.cap, 42), true, rfl, rfl, by omega, hs2, fun e he h => absurd h (by omega), fun _ a3 n19 n20 S3 => ?_⟩⟩
      · rw [he, he']
        exact br_intro (fun _ => trivial) (fun h => absurd h (by simp))
      · obtain ⟨g1, g2, g3, g4⟩ := badV_zero h0
        obtain ⟨r1, r2, r3, r4, r5, r6⟩ := okR_b g1
        have e1 := linesL_len l most t (b - t + 1).toNat lf (rt - lf + 1).toNat
        have e2 := linesL_len (downL l t lf b rt x.i) most t (b - t + 1).toNat lf (rt - lf + 1).toNat
        refine ⟨by decide, _, _, _, _, _, _, _, _, rfl, rfl, e1.symm, e2.symm, by rw [e1]; omega, linesL_cong fun i j hi hj => ?_⟩
        rw [hx0]
        refine (atD_down hu ?_).symm
        unfold inF
        rw [g1]
        simp only [Bool.true_and, decide_eq_true_eq]
        omega)

theorem order_law (o_ : Obj) (ho : tabOk o_) (t lf b rt : Int) (a : Option Addr) (n o len cap : Nat) (g0 g1 : Nat → Int) (g2 : Nat → ByteArray) (g3 : Nat → Int) (S : List Nat) (most : Int) (hlen : len ≤ 9223372036854775807) (hs : ∀ i, i < len → (g2 i).size ≤ 9223372036854775807) :
    LC Tryd.prog 6 [.agg [.v (.int .i64 t), .v (.int .i64 lf), .v (.int .i64 b), .v (.int .i64 rt)], .os 1 a n o 0 4 len cap, .v (.int .i64 most)] [tB GT o_, ⟨n, .lst o len [.ints .i64 g0, .ints .i64 g1, .strs g2, .ints .i64 g3] S none, false⟩] (fun z _ => z = .v (.bool true)) := by
  have h := lo_lc o_ ho t lf b rt (mkDw g0 g1 g2 g3 len) a n o cap S most (by rw [mkDw_len]; exact hlen) (mkDw_small hs)
  rw [mkDw_len] at h
  exact LC.pre h (LeH.of_bs ⟨LeB.refl _, mkDw_le .., trivial⟩) rfl

end Go.Proofs.YthkegefjmcipmaaDoor

