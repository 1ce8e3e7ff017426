/- View: columns: their condition. -/
import Derived.Test.YthkegefjmcipmaaDoorVC
import Derived.Test.YthkegefjmcipmaaDoorVB
namespace Go.Sp
open Go.Eng Go.Proofs.YthkegefjmcipmaaDoor

/-- All columns, of the things so far. -/
structure colsIs (p : List Dw) (t b lf : Int) (wid : Nat → Int) (cs : List CD) (m : Nat) : Prop where
  len : cs.length = m
  ltr : ∀ (i : Nat) (c : CD), cs[i]? = some c → c.letters = strL (lf + (i : Int))
  wde : ∀ (i : Nat) (c : CD), cs[i]? = some c → c.width = wid i
  ent : ∀ (i : Nat) (c : CD), cs[i]? = some c → entsOk p t b (lf + (i : Int)) c.es c.clock

/-- The column in sight when the next thing comes. -/
def focC (l : List Dw) (t lf b rt : Int) (i : Nat) : Nat := if inF t lf b rt (dAt l dwD.z i).row (dAt l dwD.z i).col then ((dAt l dwD.z i).col - lf).toNat else 0

end Go.Sp
namespace Go.Eng
open Go Go.Sp Go.Proofs.YthkegefjmcipmaaDoor

structure CX where
  j : Nat
  a : Option Addr
  n : Nat
  cap : Nat
  S : List Nat
  cs : List CD
  Sc : List Nat

structure FX where
  i : Nat
  f : Nat
  c : CD
  cs : List CD
  Sr : List Nat

abbrev cdF (c : CD) : Blk := ⟨c.num, .cells [.v (.string c.letters), .v (.int .i64 c.width), .mp 5 c.mnum] 63, true⟩

def colJ (l : List Dw) (most t lf b rt : Int) : Nat → TT → HH → LI := fun k T H =>
  bif Nat.beq k 0 then
    .sem [⟨CX, fun x => ((8, .v (.int .i64 (lf + (x.j : Int)))) :: (7, .os 2 x.a x.n 0 0 1 x.j x.cap) :: keepT [1, 2, 3] T, H ++ [wD ptrD x.n (x.cs.map CD.num) x.S x.cap 60, colsB x.cs x.Sc]),
      fun x => x.j ≤ (rt - lf + 1).toNat ∧ emptyOk x.a x.n x.j x.cap ∧ x.j ≤ x.cap ∧ colsIs [] t b lf (fun _ => 0) x.cs x.j, fun x => (rt - lf + 1).toNat - x.j⟩]
  else bif Nat.beq k 2 then
    match H with
    | [b0, b1, ⟨ln, .dl _ _ _ _ Sl wr _, _⟩, _] =>
      .sem [⟨FX, fun x => ((39, .v (.int .i64 (x.i : Int))) :: keepT [2, 3, 7, 37, 38] T, [b0, b1, ⟨ln, .dl Nat ptrD 0 (x.cs.map CD.num) Sl wr (some (x.f, [.ptr 4 x.c.num 0])), true⟩, colsB (x.cs.eraseIdx x.f) x.Sr, cdF x.c, cdM x.c]),
        fun x => x.i ≤ l.length ∧ x.cs[x.f]? = some x.c ∧ x.f = focC l t lf b rt x.i ∧ colsIs (l.take x.i) t b lf (fun _ => 0) x.cs (rt - lf + 1).toNat, fun x => l.length - x.i⟩]
    | _ => .unroll 0
  else bif Nat.beq k 4 then
    match H with
    | b0 :: b1 :: ⟨ln, .dl _ _ _ _ Sl wr _, _⟩ :: _ =>
      .sem [⟨FX, fun x => ((66, .v (.int .i64 (x.i : Int))) :: keepT [2, 7, 64, 65] T, [b0, b1, ⟨ln, .dl Nat ptrD 0 (x.cs.map CD.num) Sl wr (some (x.i, [.ptr 4 x.c.num 0])), true⟩, colsB (x.cs.eraseIdx x.i) x.Sr, cdF x.c, cdM x.c]),
        fun x => x.i < (rt - lf + 1).toNat ∧ x.cs[x.i]? = some x.c ∧ colsIs l t b lf (fun j => if j < x.i then colW l most t (b - t + 1).toNat (lf + (j : Int)) else 0) x.cs (rt - lf + 1).toNat, fun x => (rt - lf + 1).toNat - x.i⟩,
       ⟨FX, fun x => ((66, .v (.int .i64 (((rt - lf + 1).toNat : Nat) : Int))) :: keepT [2, 7, 64, 65] T, [b0, b1, ⟨ln, .dl Nat ptrD 0 (x.cs.map CD.num) Sl wr none, true⟩, colsB x.cs x.Sr]),
        fun x => colsIs l t b lf (fun j => colW l most t (b - t + 1).toNat (lf + (j : Int))) x.cs (rt - lf + 1).toNat, fun _ => 0⟩]
    | _ => .unroll 0
  else bif Nat.beq k 6 then
    match H with
    | [b0, b1, b2, b3, ⟨sn, .cells [lt, _, mp] ty, ow⟩, ⟨mn, .mape α ky vl mk es clock, own⟩, ⟨itn, .itere mi mnn since _, io⟩] =>
      .inv (List Nat × Int) (fun x => (keepT [2, 7, 14, 64, 65, 66, 82] T, [b0, b1, b2, b3, ⟨sn, .cells [lt, .v (.int .i64 x.2), mp] ty, ow⟩, ⟨mn, .mape α ky vl mk es clock, own⟩, ⟨itn, .itere mi mnn since x.1, io⟩]))
        (fun x => x.1.Nodup ∧ (∀ q ∈ x.1, q ∈ es.map (·.2)) ∧ (match lt with | .v (.string s) => ∀ B : Int, x.2 ≤ B ↔ (s.size : Int) ≤ B ∧ ∀ a q, (a, q) ∈ es → q ∈ x.1 → (match vl a with | .agg [_, _, .v (.string u), _] => min most (u.size : Int) ≤ B | _ => False) | _ => False)) (fun x => es.length - x.1.length)
    | _ => .unroll 0
  else .unroll 0

end Go.Eng
namespace Go.Proofs.YthkegefjmcipmaaDoor
open Go Go.Eng Go.Sp
set_option linter.unusedVariables false
set_option linter.unusedSimpArgs false

def tbCl : Tbl := (39, .pure lettersH) :: (18, .pure pinH) :: (4294900060, .dt Nat ptrD) :: (4294967294, .ext mergeFlag) :: []

theorem tbCl_ok : TblOk Tryd.prog tbCl := ⟨letters_pok, pin_ok, ptrD_ok, flag_ok, trivial⟩


set_option maxRecDepth 100000 in
theorem cols_vc (t lf b rt : Int) (l : List Dw) (a : Option Addr) (n o cap : Nat) (S : List Nat) (most : Int) {R : AV → HH → Prop} (h : (∀ (n1 : Nat), n1 = n1 ∧ (∀ (w : World), HoldsH [Blk.mk n (Cont.dl Dw dwD o l S none none) false, Blk.mk n1 (Cont.cells [AV.v (Value.int IntKind.i64 t), AV.v (Value.int IntKind.i64 lf), AV.v (Value.int IntKind.i64 b), AV.v (Value.int IntKind.i64 rt)] (23 : Nat)) true] w → ∃ (x : CX), (x.j ≤ (rt - lf + (1 : Int)).toNat ∧ (x.j = (0 : Nat) → x.cap = (0 : Nat) ∨ x.a = some (Addr.mk x.n (0 : Nat) none)) ∧ x.j ≤ x.cap ∧ colsIs [] t b lf (fun (x : Nat) => (0 : Int)) x.cs x.j) ∧ ((AV.v (Value.int IntKind.i64 lf)).den = (AV.v (Value.int IntKind.i64 (lf + (↑x.j : Int)))).den ∧ (AV.v (Value.slice none (0 : Nat) (0 : Nat))).den = (AV.os (2 : Nat) x.a x.n (0 : Nat) (0 : Nat) (1 : Nat) x.j x.cap).den ∧ (AV.os (0 : Nat) a n o (0 : Nat) (4 : Nat) l.length cap).den = (AV.os (0 : Nat) a n o (0 : Nat) (4 : Nat) l.length cap).den ∧ (AV.v (Value.int IntKind.i64 most)).den = (AV.v (Value.int IntKind.i64 most)).den ∧ (AV.ptr (1 : Nat) n1 (0 : Nat)).den = (AV.ptr (1 : Nat) n1 (0 : Nat)).den ∧ True) ∧ To [Blk.mk n (Cont.dl Dw dwD o l S none none) false, Blk.mk n1 (Cont.cells [AV.v (Value.int IntKind.i64 t), AV.v (Value.int IntKind.i64 lf), AV.v (Value.int IntKind.i64 b), AV.v (Value.int IntKind.i64 rt)] (23 : Nat)) true] [Blk.mk n (Cont.dl Dw dwD o l S none none) false, Blk.mk n1 (Cont.cells [AV.v (Value.int IntKind.i64 t), AV.v (Value.int IntKind.i64 lf), AV.v (Value.int IntKind.i64 b), AV.v (Value.int IntKind.i64 rt)] (23 : Nat)) true, Blk.mk x.n (Cont.dl Nat ptrD (0 : Nat) (List.map CD.num x.cs) x.S (some (x.cap, (60 : TypeId))) none) true, Blk.mk (0 : Nat) (Cont.res (List CD × List Nat) (x.cs, x.Sc) (fun (x : List CD × List Nat) => x.snd) (packI colsC)) true] w) ∧ ∀ (x : CX), x.j ≤ (rt - lf + (1 : Int)).toNat ∧ emptyOk x.a x.n x.j x.cap ∧ x.j ≤ x.cap ∧ colsIs [] t b lf (fun (x : Nat) => (0 : Int)) x.cs x.j → n1 = n1 ∧ br (decide (lf + (↑x.j : Int) ≤ rt)) (∀ (n4 n5 n6 : Nat), n6 = n6 ∧ x.n = x.n ∧ (0 : Nat) = (0 : Nat) ∧ (0 : Nat) = (0 : Nat) ∧ x.j ≤ (List.map CD.num x.cs).length ∧ x.cap ≤ x.cap ∧ (x.j = (0 : Nat) → x.cap = (0 : Nat) ∨ x.a = some (Addr.mk x.n (0 : Nat) none)) ∧ x.j ≤ x.cap ∧ (x.j + (1 : Nat) ≤ (9223372036854775807 : Nat) ∧ (x.j + (1 : Nat) + (x.j + (1 : Nat)) / (4 : Nat) + (192 : Nat)) * (8 : Nat) ≤ (281474976710656 : Nat)) ∧ ∀ (a' : Option Addr) (n8 n9 : Nat) (S' : List Nat), x.j + (1 : Nat) ≤ n9 → emptyOk a' n8 (x.j + (1 : Nat)) n9 → ∀ (w : World), HoldsH [Blk.mk n (Cont.dl Dw dwD o l S none none) false, Blk.mk n1 (Cont.cells [AV.v (Value.int IntKind.i64 t), AV.v (Value.int IntKind.i64 lf), AV.v (Value.int IntKind.i64 b), AV.v (Value.int IntKind.i64 rt)] (23 : Nat)) true, Blk.mk n8 (Cont.dl Nat ptrD (0 : Nat) (List.take x.j (List.map CD.num x.cs) ++ [n5]) S' (some (n9, (60 : Nat))) none) true, Blk.mk (0 : Nat) (Cont.res (List CD × List Nat) (x.cs, x.Sc) (fun (x : List CD × List Nat) => x.snd) (packI colsC)) true, Blk.mk n4 (Cont.mapc [] (0 : Nat)) true, Blk.mk n5 (Cont.cells [AV.v (Value.string (strL (lf + (↑x.j : Int)))), AV.v (Value.int IntKind.i64 (0 : Int)), AV.mp (4 : Nat) n4] (63 : Nat)) true, Blk.mk n6 (Cont.cells [AV.ptr (5 : Nat) n5 (0 : Nat)] (60 : Nat)) true] w → ∃ (x_1 : CX), (x_1.j ≤ (rt - lf + (1 : Int)).toNat ∧ (x_1.j = (0 : Nat) → x_1.cap = (0 : Nat) ∨ x_1.a = some (Addr.mk x_1.n (0 : Nat) none)) ∧ x_1.j ≤ x_1.cap ∧ colsIs [] t b lf (fun (x : Nat) => (0 : Int)) x_1.cs x_1.j) ∧ (rt - lf + (1 : Int)).toNat - x_1.j < (rt - lf + (1 : Int)).toNat - x.j ∧ ((AV.v (Value.int IntKind.i64 (IntKind.i64.wrap (lf + (↑x.j : Int) + (1 : Int))))).den = (AV.v (Value.int IntKind.i64 (lf + (↑x_1.j : Int)))).den ∧ (AV.os (2 : Nat) a' n8 (0 : Nat) (0 : Nat) (1 : Nat) (x.j + (1 : Nat)) n9).den = (AV.os (2 : Nat) x_1.a x_1.n (0 : Nat) (0 : Nat) (1 : Nat) x_1.j x_1.cap).den ∧ (AV.os (0 : Nat) a n o (0 : Nat) (4 : Nat) l.length cap).den = (AV.os (0 : Nat) a n o (0 : Nat) (4 : Nat) l.length cap).den ∧ (AV.v (Value.int IntKind.i64 most)).den = (AV.v (Value.int IntKind.i64 most)).den ∧ (AV.ptr (1 : Nat) n1 (0 : Nat)).den = (AV.ptr (1 : Nat) n1 (0 : Nat)).den ∧ True) ∧ To [Blk.mk n (Cont.dl Dw dwD o l S none none) false, Blk.mk n1 (Cont.cells [AV.v (Value.int IntKind.i64 t), AV.v (Value.int IntKind.i64 lf), AV.v (Value.int IntKind.i64 b), AV.v (Value.int IntKind.i64 rt)] (23 : Nat)) true, Blk.mk n8 (Cont.dl Nat ptrD (0 : Nat) (List.take x.j (List.map CD.num x.cs) ++ [n5]) S' (some (n9, (60 : Nat))) none) true, Blk.mk (0 : Nat) (Cont.res (List CD × List Nat) (x.cs, x.Sc) (fun (x : List CD × List Nat) => x.snd) (packI colsC)) true, Blk.mk n4 (Cont.mapc [] (0 : Nat)) true, Blk.mk n5 (Cont.cells [AV.v (Value.string (strL (lf + (↑x.j : Int)))), AV.v (Value.int IntKind.i64 (0 : Int)), AV.mp (4 : Nat) n4] (63 : Nat)) true, Blk.mk n6 (Cont.cells [AV.ptr (5 : Nat) n5 (0 : Nat)] (60 : Nat)) true] [Blk.mk n (Cont.dl Dw dwD o l S none none) false, Blk.mk n1 (Cont.cells [AV.v (Value.int IntKind.i64 t), AV.v (Value.int IntKind.i64 lf), AV.v (Value.int IntKind.i64 b), AV.v (Value.int IntKind.i64 rt)] (23 : Nat)) true, Blk.mk x_1.n (Cont.dl Nat ptrD (0 : Nat) (List.map CD.num x_1.cs) x_1.S (some (x_1.cap, (60 : TypeId))) none) true, Blk.mk (0 : Nat) (Cont.res (List CD × List Nat) (x_1.cs, x_1.Sc) (fun (x : List CD × List Nat) => x.snd) (packI colsC)) true] w) ((∀ (w : World), HoldsH [Blk.mk n (Cont.dl Dw dwD o l S none none) false, Blk.mk n1 (Cont.cells [AV.v (Value.int IntKind.i64 t), AV.v (Value.int IntKind.i64 lf), AV.v (Value.int IntKind.i64 b), AV.v (Value.int IntKind.i64 rt)] (23 : Nat)) true, Blk.mk x.n (Cont.dl Nat ptrD (0 : Nat) (List.map CD.num x.cs) x.S (some (x.cap, (60 : TypeId))) none) true, Blk.mk (0 : Nat) (Cont.res (List CD × List Nat) (x.cs, x.Sc) (fun (x : List CD × List Nat) => x.snd) (packI colsC)) true] w → ∃ (x_1 : FX), (x_1.i ≤ l.length ∧ x_1.cs[x_1.f]? = some x_1.c ∧ x_1.f = focC l t lf b rt x_1.i ∧ colsIs (List.take x_1.i l) t b lf (fun (x : Nat) => (0 : Int)) x_1.cs (rt - lf + (1 : Int)).toNat) ∧ ((AV.v (Value.int IntKind.i64 (0 : Int))).den = (AV.v (Value.int IntKind.i64 (↑x_1.i : Int))).den ∧ (AV.v (Value.int IntKind.i64 most)).den = (AV.v (Value.int IntKind.i64 most)).den ∧ (AV.ptr (1 : Nat) n1 (0 : Nat)).den = (AV.ptr (1 : Nat) n1 (0 : Nat)).den ∧ (AV.os (2 : Nat) x.a x.n (0 : Nat) (0 : Nat) (1 : Nat) x.j x.cap).den = (AV.os (2 : Nat) x.a x.n (0 : Nat) (0 : Nat) (1 : Nat) x.j x.cap).den ∧ (AV.os (0 : Nat) a n o (0 : Nat) (4 : Nat) l.length cap).den = (AV.os (0 : Nat) a n o (0 : Nat) (4 : Nat) l.length cap).den ∧ (AV.v (Value.int IntKind.i64 (↑l.length : Int))).den = (AV.v (Value.int IntKind.i64 (↑l.length : Int))).den ∧ True) ∧ To [Blk.mk n (Cont.dl Dw dwD o l S none none) false, Blk.mk n1 (Cont.cells [AV.v (Value.int IntKind.i64 t), AV.v (Value.int IntKind.i64 lf), AV.v (Value.int IntKind.i64 b), AV.v (Value.int IntKind.i64 rt)] (23 : Nat)) true, Blk.mk x.n (Cont.dl Nat ptrD (0 : Nat) (List.map CD.num x.cs) x.S (some (x.cap, (60 : TypeId))) none) true, Blk.mk (0 : Nat) (Cont.res (List CD × List Nat) (x.cs, x.Sc) (fun (x : List CD × List Nat) => x.snd) (packI colsC)) true] [Blk.mk n (Cont.dl Dw dwD o l S none none) false, Blk.mk n1 (Cont.cells [AV.v (Value.int IntKind.i64 t), AV.v (Value.int IntKind.i64 lf), AV.v (Value.int IntKind.i64 b), AV.v (Value.int IntKind.i64 rt)] (23 : Nat)) true, Blk.mk x.n (Cont.dl Nat ptrD (0 : Nat) (List.map CD.num x_1.cs) x.S (some (x.cap, (60 : TypeId))) (some (x_1.f, [AV.ptr (4 : Nat) x_1.c.num (0 : Nat)]))) true, Blk.mk (0 : Nat) (Cont.res (List CD × List Nat) (x_1.cs.eraseIdx x_1.f, x_1.Sr) (fun (x : List CD × List Nat) => x.snd) (packI colsC)) true, Blk.mk x_1.c.num (Cont.cells [AV.v (Value.string x_1.c.letters), AV.v (Value.int IntKind.i64 x_1.c.width), AV.mp (5 : Nat) x_1.c.mnum] (63 : Nat)) true, Blk.mk x_1.c.mnum (Cont.mape (Int × Dw) kyC vlC mkC x_1.c.es x_1.c.clock) true] w) ∧ ∀ (x_1 : FX), x_1.i ≤ l.length ∧ x_1.cs[x_1.f]? = some x_1.c ∧ x_1.f = focC l t lf b rt x_1.i ∧ colsIs (List.take x_1.i l) t b lf (fun (x : Nat) => (0 : Int)) x_1.cs (rt - lf + (1 : Int)).toNat → br (decide ((↑x_1.i : Int) < (↑l.length : Int))) (((0 : Int) ≤ (↑x_1.i : Int) ∧ (↑x_1.i : Int) < (↑l.length : Int)) ∧ n = n ∧ o = o ∧ (0 : Nat) + (↑x_1.i : Int).toNat < l.length ∧ ∀ (n6 : Nat), n6 = n6 ∧ n1 = n1 ∧ n6 = n6 ∧ br (inF t lf b rt (dAt l dwD.z ((0 : Nat) + (↑x_1.i : Int).toNat)).row (dAt l dwD.z ((0 : Nat) + (↑x_1.i : Int).toNat)).col) (n6 = n6 ∧ n1 = n1 ∧ ((0 : Int) ≤ IntKind.i64.wrap ((dAt l dwD.z ((0 : Nat) + (↑x_1.i : Int).toNat)).col - lf) ∧ IntKind.i64.wrap ((dAt l dwD.z ((0 : Nat) + (↑x_1.i : Int).toNat)).col - lf) < (↑x.j : Int)) ∧ x.n = x.n ∧ (0 : Nat) = (0 : Nat) ∧ (0 : Nat) + (IntKind.i64.wrap ((dAt l dwD.z ((0 : Nat) + (↑x_1.i : Int).toNat)).col - lf)).toNat < (List.map CD.num x_1.cs).length ∧ (0 : Nat) + (IntKind.i64.wrap ((dAt l dwD.z ((0 : Nat) + (↑x_1.i : Int).toNat)).col - lf)).toNat = x_1.f ∧ x_1.c.num = x_1.c.num ∧ n6 = n6 ∧ n6 = n6 ∧ x_1.c.mnum = x_1.c.mnum ∧ (∀ (a_3 : Int × Dw) (n8 : Nat), (a_3, n8) ∈ x_1.c.es → br ((dAt l dwD.z ((0 : Nat) + (↑x_1.i : Int).toNat)).row == a_3.fst) (∀ (w : World), HoldsH ([Blk.mk n (Cont.dl Dw dwD o l S none none) false, Blk.mk n1 (Cont.cells [AV.v (Value.int IntKind.i64 t), AV.v (Value.int IntKind.i64 lf), AV.v (Value.int IntKind.i64 b), AV.v (Value.int IntKind.i64 rt)] (23 : Nat)) true, Blk.mk x.n (Cont.dl Nat ptrD (0 : Nat) (List.map CD.num x_1.cs) x.S (some (x.cap, (60 : TypeId))) (some (x_1.f, [AV.ptr (4 : Nat) x_1.c.num (0 : Nat)]))) true, Blk.mk (0 : Nat) (Cont.res (List CD × List Nat) (x_1.cs.eraseIdx x_1.f, x_1.Sr) (fun (x : List CD × List Nat) => x.snd) (packI colsC)) true, Blk.mk x_1.c.num (Cont.cells [AV.v (Value.string x_1.c.letters), AV.v (Value.int IntKind.i64 x_1.c.width), AV.mp (5 : Nat) x_1.c.mnum] (63 : Nat)) true, Blk.mk x_1.c.mnum (Cont.mape (Int × Dw) kyC vlC mkC x_1.c.es x_1.c.clock) true, Blk.mk n6 (Cont.cells [AV.v (Value.int IntKind.i64 (dAt l dwD.z ((0 : Nat) + (↑x_1.i : Int).toNat)).row), AV.v (Value.int IntKind.i64 (dAt l dwD.z ((0 : Nat) + (↑x_1.i : Int).toNat)).col), AV.v (Value.string (dAt l dwD.z ((0 : Nat) + (↑x_1.i : Int).toNat)).text), AV.v (Value.int IntKind.i64 (dAt l dwD.z ((0 : Nat) + (↑x_1.i : Int).toNat)).kind)] (42 : Nat)) true].set (5 : Nat) (Blk.mk x_1.c.mnum (Cont.mape (Int × Dw) kyC vlC mkC (setE x_1.c.es n8 ((dAt l dwD.z ((0 : Nat) + (↑x_1.i : Int).toNat)).row, Dw.mk (dAt l dwD.z ((0 : Nat) + (↑x_1.i : Int).toNat)).row (dAt l dwD.z ((0 : Nat) + (↑x_1.i : Int).toNat)).col (dAt l dwD.z ((0 : Nat) + (↑x_1.i : Int).toNat)).text (dAt l dwD.z ((0 : Nat) + (↑x_1.i : Int).toNat)).kind)) x_1.c.clock) true)) w → ∃ (x_2 : FX), (x_2.i ≤ l.length ∧ x_2.cs[x_2.f]? = some x_2.c ∧ x_2.f = focC l t lf b rt x_2.i ∧ colsIs (List.take x_2.i l) t b lf (fun (x : Nat) => (0 : Int)) x_2.cs (rt - lf + (1 : Int)).toNat) ∧ l.length - x_2.i < l.length - x_1.i ∧ ((AV.v (Value.int IntKind.i64 (IntKind.i64.wrap ((↑x_1.i : Int) + (1 : Int))))).den = (AV.v (Value.int IntKind.i64 (↑x_2.i : Int))).den ∧ (AV.v (Value.int IntKind.i64 most)).den = (AV.v (Value.int IntKind.i64 most)).den ∧ (AV.ptr (1 : Nat) n1 (0 : Nat)).den = (AV.ptr (1 : Nat) n1 (0 : Nat)).den ∧ (AV.os (2 : Nat) x.a x.n (0 : Nat) (0 : Nat) (1 : Nat) x.j x.cap).den = (AV.os (2 : Nat) x.a x.n (0 : Nat) (0 : Nat) (1 : Nat) x.j x.cap).den ∧ (AV.os (0 : Nat) a n o (0 : Nat) (4 : Nat) l.length cap).den = (AV.os (0 : Nat) a n o (0 : Nat) (4 : Nat) l.length cap).den ∧ (AV.v (Value.int IntKind.i64 (↑l.length : Int))).den = (AV.v (Value.int IntKind.i64 (↑l.length : Int))).den ∧ True) ∧ To [Blk.mk n (Cont.dl Dw dwD o l S none none) false, Blk.mk n1 (Cont.cells [AV.v (Value.int IntKind.i64 t), AV.v (Value.int IntKind.i64 lf), AV.v (Value.int IntKind.i64 b), AV.v (Value.int IntKind.i64 rt)] (23 : Nat)) true, Blk.mk x.n (Cont.dl Nat ptrD (0 : Nat) (List.map CD.num x_1.cs) x.S (some (x.cap, (60 : TypeId))) (some (x_1.f, [AV.ptr (4 : Nat) x_1.c.num (0 : Nat)]))) true, Blk.mk (0 : Nat) (Cont.res (List CD × List Nat) (x_1.cs.eraseIdx x_1.f, x_1.Sr) (fun (x : List CD × List Nat) => x.snd) (packI colsC)) true, Blk.mk x_1.c.num (Cont.cells [AV.v (Value.string x_1.c.letters), AV.v (Value.int IntKind.i64 x_1.c.width), AV.mp (5 : Nat) x_1.c.mnum] (63 : Nat)) true, Blk.mk x_1.c.mnum (Cont.mape (Int × Dw) kyC vlC mkC (setE x_1.c.es n8 ((dAt l dwD.z ((0 : Nat) + (↑x_1.i : Int).toNat)).row, Dw.mk (dAt l dwD.z ((0 : Nat) + (↑x_1.i : Int).toNat)).row (dAt l dwD.z ((0 : Nat) + (↑x_1.i : Int).toNat)).col (dAt l dwD.z ((0 : Nat) + (↑x_1.i : Int).toNat)).text (dAt l dwD.z ((0 : Nat) + (↑x_1.i : Int).toNat)).kind)) x_1.c.clock) true, Blk.mk n6 (Cont.cells [AV.v (Value.int IntKind.i64 (dAt l dwD.z ((0 : Nat) + (↑x_1.i : Int).toNat)).row), AV.v (Value.int IntKind.i64 (dAt l dwD.z ((0 : Nat) + (↑x_1.i : Int).toNat)).col), AV.v (Value.string (dAt l dwD.z ((0 : Nat) + (↑x_1.i : Int).toNat)).text), AV.v (Value.int IntKind.i64 (dAt l dwD.z ((0 : Nat) + (↑x_1.i : Int).toNat)).kind)] (42 : Nat)) true] [Blk.mk n (Cont.dl Dw dwD o l S none none) false, Blk.mk n1 (Cont.cells [AV.v (Value.int IntKind.i64 t), AV.v (Value.int IntKind.i64 lf), AV.v (Value.int IntKind.i64 b), AV.v (Value.int IntKind.i64 rt)] (23 : Nat)) true, Blk.mk x.n (Cont.dl Nat ptrD (0 : Nat) (List.map CD.num x_2.cs) x.S (some (x.cap, (60 : TypeId))) (some (x_2.f, [AV.ptr (4 : Nat) x_2.c.num (0 : Nat)]))) true, Blk.mk (0 : Nat) (Cont.res (List CD × List Nat) (x_2.cs.eraseIdx x_2.f, x_2.Sr) (fun (x : List CD × List Nat) => x.snd) (packI colsC)) true, Blk.mk x_2.c.num (Cont.cells [AV.v (Value.string x_2.c.letters), AV.v (Value.int IntKind.i64 x_2.c.width), AV.mp (5 : Nat) x_2.c.mnum] (63 : Nat)) true, Blk.mk x_2.c.mnum (Cont.mape (Int × Dw) kyC vlC mkC x_2.c.es x_2.c.clock) true] w) True) ∧ ((∀ (a : Int × Dw) (b : Nat), (a, b) ∈ x_1.c.es → ((dAt l dwD.z ((0 : Nat) + (↑x_1.i : Int).toNat)).row == a.fst) = false) → ∀ (w : World), HoldsH [Blk.mk n (Cont.dl Dw dwD o l S none none) false, Blk.mk n1 (Cont.cells [AV.v (Value.int IntKind.i64 t), AV.v (Value.int IntKind.i64 lf), AV.v (Value.int IntKind.i64 b), AV.v (Value.int IntKind.i64 rt)] (23 : Nat)) true, Blk.mk x.n (Cont.dl Nat ptrD (0 : Nat) (List.map CD.num x_1.cs) x.S (some (x.cap, (60 : TypeId))) (some (x_1.f, [AV.ptr (4 : Nat) x_1.c.num (0 : Nat)]))) true, Blk.mk (0 : Nat) (Cont.res (List CD × List Nat) (x_1.cs.eraseIdx x_1.f, x_1.Sr) (fun (x : List CD × List Nat) => x.snd) (packI colsC)) true, Blk.mk x_1.c.num (Cont.cells [AV.v (Value.string x_1.c.letters), AV.v (Value.int IntKind.i64 x_1.c.width), AV.mp (5 : Nat) x_1.c.mnum] (63 : Nat)) true, Blk.mk x_1.c.mnum (Cont.mape (Int × Dw) kyC vlC mkC (x_1.c.es ++ [(((dAt l dwD.z ((0 : Nat) + (↑x_1.i : Int).toNat)).row, Dw.mk (dAt l dwD.z ((0 : Nat) + (↑x_1.i : Int).toNat)).row (dAt l dwD.z ((0 : Nat) + (↑x_1.i : Int).toNat)).col (dAt l dwD.z ((0 : Nat) + (↑x_1.i : Int).toNat)).text (dAt l dwD.z ((0 : Nat) + (↑x_1.i : Int).toNat)).kind), x_1.c.clock)]) (x_1.c.clock + (1 : Nat))) true, Blk.mk n6 (Cont.cells [AV.v (Value.int IntKind.i64 (dAt l dwD.z ((0 : Nat) + (↑x_1.i : Int).toNat)).row), AV.v (Value.int IntKind.i64 (dAt l dwD.z ((0 : Nat) + (↑x_1.i : Int).toNat)).col), AV.v (Value.string (dAt l dwD.z ((0 : Nat) + (↑x_1.i : Int).toNat)).text), AV.v (Value.int IntKind.i64 (dAt l dwD.z ((0 : Nat) + (↑x_1.i : Int).toNat)).kind)] (42 : Nat)) true] w → ∃ (x_2 : FX), (x_2.i ≤ l.length ∧ x_2.cs[x_2.f]? = some x_2.c ∧ x_2.f = focC l t lf b rt x_2.i ∧ colsIs (List.take x_2.i l) t b lf (fun (x : Nat) => (0 : Int)) x_2.cs (rt - lf + (1 : Int)).toNat) ∧ l.length - x_2.i < l.length - x_1.i ∧ ((AV.v (Value.int IntKind.i64 (IntKind.i64.wrap ((↑x_1.i : Int) + (1 : Int))))).den = (AV.v (Value.int IntKind.i64 (↑x_2.i : Int))).den ∧ (AV.v (Value.int IntKind.i64 most)).den = (AV.v (Value.int IntKind.i64 most)).den ∧ (AV.ptr (1 : Nat) n1 (0 : Nat)).den = (AV.ptr (1 : Nat) n1 (0 : Nat)).den ∧ (AV.os (2 : Nat) x.a x.n (0 : Nat) (0 : Nat) (1 : Nat) x.j x.cap).den = (AV.os (2 : Nat) x.a x.n (0 : Nat) (0 : Nat) (1 : Nat) x.j x.cap).den ∧ (AV.os (0 : Nat) a n o (0 : Nat) (4 : Nat) l.length cap).den = (AV.os (0 : Nat) a n o (0 : Nat) (4 : Nat) l.length cap).den ∧ (AV.v (Value.int IntKind.i64 (↑l.length : Int))).den = (AV.v (Value.int IntKind.i64 (↑l.length : Int))).den ∧ True) ∧ To [Blk.mk n (Cont.dl Dw dwD o l S none none) false, Blk.mk n1 (Cont.cells [AV.v (Value.int IntKind.i64 t), AV.v (Value.int IntKind.i64 lf), AV.v (Value.int IntKind.i64 b), AV.v (Value.int IntKind.i64 rt)] (23 : Nat)) true, Blk.mk x.n (Cont.dl Nat ptrD (0 : Nat) (List.map CD.num x_1.cs) x.S (some (x.cap, (60 : TypeId))) (some (x_1.f, [AV.ptr (4 : Nat) x_1.c.num (0 : Nat)]))) true, Blk.mk (0 : Nat) (Cont.res (List CD × List Nat) (x_1.cs.eraseIdx x_1.f, x_1.Sr) (fun (x : List CD × List Nat) => x.snd) (packI colsC)) true, Blk.mk x_1.c.num (Cont.cells [AV.v (Value.string x_1.c.letters), AV.v (Value.int IntKind.i64 x_1.c.width), AV.mp (5 : Nat) x_1.c.mnum] (63 : Nat)) true, Blk.mk x_1.c.mnum (Cont.mape (Int × Dw) kyC vlC mkC (x_1.c.es ++ [(((dAt l dwD.z ((0 : Nat) + (↑x_1.i : Int).toNat)).row, Dw.mk (dAt l dwD.z ((0 : Nat) + (↑x_1.i : Int).toNat)).row (dAt l dwD.z ((0 : Nat) + (↑x_1.i : Int).toNat)).col (dAt l dwD.z ((0 : Nat) + (↑x_1.i : Int).toNat)).text (dAt l dwD.z ((0 : Nat) + (↑x_1.i : Int).toNat)).kind), x_1.c.clock)]) (x_1.c.clock + (1 : Nat))) true, Blk.mk n6 (Cont.cells [AV.v (Value.int IntKind.i64 (dAt l dwD.z ((0 : Nat) + (↑x_1.i : Int).toNat)).row), AV.v (Value.int IntKind.i64 (dAt l dwD.z ((0 : Nat) + (↑x_1.i : Int).toNat)).col), AV.v (Value.string (dAt l dwD.z ((0 : Nat) + (↑x_1.i : Int).toNat)).text), AV.v (Value.int IntKind.i64 (dAt l dwD.z ((0 : Nat) + (↑x_1.i : Int).toNat)).kind)] (42 : Nat)) true] [Blk.mk n (Cont.dl Dw dwD o l S none none) false, Blk.mk n1 (Cont.cells [AV.v (Value.int IntKind.i64 t), AV.v (Value.int IntKind.i64 lf), AV.v (Value.int IntKind.i64 b), AV.v (Value.int IntKind.i64 rt)] (23 : Nat)) true, Blk.mk x.n (Cont.dl Nat ptrD (0 : Nat) (List.map CD.num x_2.cs) x.S (some (x.cap, (60 : TypeId))) (some (x_2.f, [AV.ptr (4 : Nat) x_2.c.num (0 : Nat)]))) true, Blk.mk (0 : Nat) (Cont.res (List CD × List Nat) (x_2.cs.eraseIdx x_2.f, x_2.Sr) (fun (x : List CD × List Nat) => x.snd) (packI colsC)) true, Blk.mk x_2.c.num (Cont.cells [AV.v (Value.string x_2.c.letters), AV.v (Value.int IntKind.i64 x_2.c.width), AV.mp (5 : Nat) x_2.c.mnum] (63 : Nat)) true, Blk.mk x_2.c.mnum (Cont.mape (Int × Dw) kyC vlC mkC x_2.c.es x_2.c.clock) true] w)) (∀ (w : World), HoldsH [Blk.mk n (Cont.dl Dw dwD o l S none none) false, Blk.mk n1 (Cont.cells [AV.v (Value.int IntKind.i64 t), AV.v (Value.int IntKind.i64 lf), AV.v (Value.int IntKind.i64 b), AV.v (Value.int IntKind.i64 rt)] (23 : Nat)) true, Blk.mk x.n (Cont.dl Nat ptrD (0 : Nat) (List.map CD.num x_1.cs) x.S (some (x.cap, (60 : TypeId))) (some (x_1.f, [AV.ptr (4 : Nat) x_1.c.num (0 : Nat)]))) true, Blk.mk (0 : Nat) (Cont.res (List CD × List Nat) (x_1.cs.eraseIdx x_1.f, x_1.Sr) (fun (x : List CD × List Nat) => x.snd) (packI colsC)) true, Blk.mk x_1.c.num (Cont.cells [AV.v (Value.string x_1.c.letters), AV.v (Value.int IntKind.i64 x_1.c.width), AV.mp (5 : Nat) x_1.c.mnum] (63 : Nat)) true, Blk.mk x_1.c.mnum (Cont.mape (Int × Dw) kyC vlC mkC x_1.c.es x_1.c.clock) true, Blk.mk n6 (Cont.cells [AV.v (Value.int IntKind.i64 (dAt l dwD.z ((0 : Nat) + (↑x_1.i : Int).toNat)).row), AV.v (Value.int IntKind.i64 (dAt l dwD.z ((0 : Nat) + (↑x_1.i : Int).toNat)).col), AV.v (Value.string (dAt l dwD.z ((0 : Nat) + (↑x_1.i : Int).toNat)).text), AV.v (Value.int IntKind.i64 (dAt l dwD.z ((0 : Nat) + (↑x_1.i : Int).toNat)).kind)] (42 : Nat)) true] w → ∃ (x_2 : FX), (x_2.i ≤ l.length ∧ x_2.cs[x_2.f]? = some x_2.c ∧ x_2.f = focC l t lf b rt x_2.i ∧ colsIs (List.take x_2.i l) t b lf (fun (x : Nat) => (0 : Int)) x_2.cs (rt - lf + (1 : Int)).toNat) ∧ l.length - x_2.i < l.length - x_1.i ∧ ((AV.v (Value.int IntKind.i64 (IntKind.i64.wrap ((↑x_1.i : Int) + (1 : Int))))).den = (AV.v (Value.int IntKind.i64 (↑x_2.i : Int))).den ∧ (AV.v (Value.int IntKind.i64 most)).den = (AV.v (Value.int IntKind.i64 most)).den ∧ (AV.ptr (1 : Nat) n1 (0 : Nat)).den = (AV.ptr (1 : Nat) n1 (0 : Nat)).den ∧ (AV.os (2 : Nat) x.a x.n (0 : Nat) (0 : Nat) (1 : Nat) x.j x.cap).den = (AV.os (2 : Nat) x.a x.n (0 : Nat) (0 : Nat) (1 : Nat) x.j x.cap).den ∧ (AV.os (0 : Nat) a n o (0 : Nat) (4 : Nat) l.length cap).den = (AV.os (0 : Nat) a n o (0 : Nat) (4 : Nat) l.length cap).den ∧ (AV.v (Value.int IntKind.i64 (↑l.length : Int))).den = (AV.v (Value.int IntKind.i64 (↑l.length : Int))).den ∧ True) ∧ To [Blk.mk n (Cont.dl Dw dwD o l S none none) false, Blk.mk n1 (Cont.cells [AV.v (Value.int IntKind.i64 t), AV.v (Value.int IntKind.i64 lf), AV.v (Value.int IntKind.i64 b), AV.v (Value.int IntKind.i64 rt)] (23 : Nat)) true, Blk.mk x.n (Cont.dl Nat ptrD (0 : Nat) (List.map CD.num x_1.cs) x.S (some (x.cap, (60 : TypeId))) (some (x_1.f, [AV.ptr (4 : Nat) x_1.c.num (0 : Nat)]))) true, Blk.mk (0 : Nat) (Cont.res (List CD × List Nat) (x_1.cs.eraseIdx x_1.f, x_1.Sr) (fun (x : List CD × List Nat) => x.snd) (packI colsC)) true, Blk.mk x_1.c.num (Cont.cells [AV.v (Value.string x_1.c.letters), AV.v (Value.int IntKind.i64 x_1.c.width), AV.mp (5 : Nat) x_1.c.mnum] (63 : Nat)) true, Blk.mk x_1.c.mnum (Cont.mape (Int × Dw) kyC vlC mkC x_1.c.es x_1.c.clock) true, Blk.mk n6 (Cont.cells [AV.v (Value.int IntKind.i64 (dAt l dwD.z ((0 : Nat) + (↑x_1.i : Int).toNat)).row), AV.v (Value.int IntKind.i64 (dAt l dwD.z ((0 : Nat) + (↑x_1.i : Int).toNat)).col), AV.v (Value.string (dAt l dwD.z ((0 : Nat) + (↑x_1.i : Int).toNat)).text), AV.v (Value.int IntKind.i64 (dAt l dwD.z ((0 : Nat) + (↑x_1.i : Int).toNat)).kind)] (42 : Nat)) true] [Blk.mk n (Cont.dl Dw dwD o l S none none) false, Blk.mk n1 (Cont.cells [AV.v (Value.int IntKind.i64 t), AV.v (Value.int IntKind.i64 lf), AV.v (Value.int IntKind.i64 b), AV.v (Value.int IntKind.i64 rt)] (23 : Nat)) true, Blk.mk x.n (Cont.dl Nat ptrD (0 : Nat) (List.map CD.num x_2.cs) x.S (some (x.cap, (60 : TypeId))) (some (x_2.f, [AV.ptr (4 : Nat) x_2.c.num (0 : Nat)]))) true, Blk.mk (0 : Nat) (Cont.res (List CD × List Nat) (x_2.cs.eraseIdx x_2.f, x_2.Sr) (fun (x : List CD × List Nat) => x.snd) (packI colsC)) true, Blk.mk x_2.c.num (Cont.cells [AV.v (Value.string x_2.c.letters), AV.v (Value.int IntKind.i64 x_2.c.width), AV.mp (5 : Nat) x_2.c.mnum] (63 : Nat)) true, Blk.mk x_2.c.mnum (Cont.mape (Int × Dw) kyC vlC mkC x_2.c.es x_2.c.clock) true] w)) ((∀ (w : World), HoldsH [Blk.mk n (Cont.dl Dw dwD o l S none none) false, Blk.mk n1 (Cont.cells [AV.v (Value.int IntKind.i64 t), AV.v (Value.int IntKind.i64 lf), AV.v (Value.int IntKind.i64 b), AV.v (Value.int IntKind.i64 rt)] (23 : Nat)) true, Blk.mk x.n (Cont.dl Nat ptrD (0 : Nat) (List.map CD.num x_1.cs) x.S (some (x.cap, (60 : TypeId))) (some (x_1.f, [AV.ptr (4 : Nat) x_1.c.num (0 : Nat)]))) true, Blk.mk (0 : Nat) (Cont.res (List CD × List Nat) (x_1.cs.eraseIdx x_1.f, x_1.Sr) (fun (x : List CD × List Nat) => x.snd) (packI colsC)) true, Blk.mk x_1.c.num (Cont.cells [AV.v (Value.string x_1.c.letters), AV.v (Value.int IntKind.i64 x_1.c.width), AV.mp (5 : Nat) x_1.c.mnum] (63 : Nat)) true, Blk.mk x_1.c.mnum (Cont.mape (Int × Dw) kyC vlC mkC x_1.c.es x_1.c.clock) true] w → (∃ (x_2 : FX), (x_2.i < (rt - lf + (1 : Int)).toNat ∧ x_2.cs[x_2.i]? = some x_2.c ∧ colsIs l t b lf (fun (j : Nat) => if j < x_2.i then colW l most t (b - t + (1 : Int)).toNat (lf + (↑j : Int)) else (0 : Int)) x_2.cs (rt - lf + (1 : Int)).toNat) ∧ ((AV.v (Value.int IntKind.i64 (0 : Int))).den = (AV.v (Value.int IntKind.i64 (↑x_2.i : Int))).den ∧ (AV.v (Value.int IntKind.i64 most)).den = (AV.v (Value.int IntKind.i64 most)).den ∧ (AV.os (2 : Nat) x.a x.n (0 : Nat) (0 : Nat) (1 : Nat) x.j x.cap).den = (AV.os (2 : Nat) x.a x.n (0 : Nat) (0 : Nat) (1 : Nat) x.j x.cap).den ∧ (AV.os (2 : Nat) x.a x.n (0 : Nat) (0 : Nat) (1 : Nat) x.j x.cap).den = (AV.os (2 : Nat) x.a x.n (0 : Nat) (0 : Nat) (1 : Nat) x.j x.cap).den ∧ (AV.v (Value.int IntKind.i64 (↑x.j : Int))).den = (AV.v (Value.int IntKind.i64 (↑x.j : Int))).den ∧ True) ∧ To [Blk.mk n (Cont.dl Dw dwD o l S none none) false, Blk.mk n1 (Cont.cells [AV.v (Value.int IntKind.i64 t), AV.v (Value.int IntKind.i64 lf), AV.v (Value.int IntKind.i64 b), AV.v (Value.int IntKind.i64 rt)] (23 : Nat)) true, Blk.mk x.n (Cont.dl Nat ptrD (0 : Nat) (List.map CD.num x_1.cs) x.S (some (x.cap, (60 : TypeId))) (some (x_1.f, [AV.ptr (4 : Nat) x_1.c.num (0 : Nat)]))) true, Blk.mk (0 : Nat) (Cont.res (List CD × List Nat) (x_1.cs.eraseIdx x_1.f, x_1.Sr) (fun (x : List CD × List Nat) => x.snd) (packI colsC)) true, Blk.mk x_1.c.num (Cont.cells [AV.v (Value.string x_1.c.letters), AV.v (Value.int IntKind.i64 x_1.c.width), AV.mp (5 : Nat) x_1.c.mnum] (63 : Nat)) true, Blk.mk x_1.c.mnum (Cont.mape (Int × Dw) kyC vlC mkC x_1.c.es x_1.c.clock) true] [Blk.mk n (Cont.dl Dw dwD o l S none none) false, Blk.mk n1 (Cont.cells [AV.v (Value.int IntKind.i64 t), AV.v (Value.int IntKind.i64 lf), AV.v (Value.int IntKind.i64 b), AV.v (Value.int IntKind.i64 rt)] (23 : Nat)) true, Blk.mk x.n (Cont.dl Nat ptrD (0 : Nat) (List.map CD.num x_2.cs) x.S (some (x.cap, (60 : TypeId))) (some (x_2.i, [AV.ptr (4 : Nat) x_2.c.num (0 : Nat)]))) true, Blk.mk (0 : Nat) (Cont.res (List CD × List Nat) (x_2.cs.eraseIdx x_2.i, x_2.Sr) (fun (x : List CD × List Nat) => x.snd) (packI colsC)) true, Blk.mk x_2.c.num (Cont.cells [AV.v (Value.string x_2.c.letters), AV.v (Value.int IntKind.i64 x_2.c.width), AV.mp (5 : Nat) x_2.c.mnum] (63 : Nat)) true, Blk.mk x_2.c.mnum (Cont.mape (Int × Dw) kyC vlC mkC x_2.c.es x_2.c.clock) true] w) ∨ ∃ (x_2 : FX), colsIs l t b lf (fun (j : Nat) => colW l most t (b - t + (1 : Int)).toNat (lf + (↑j : Int))) x_2.cs (rt - lf + (1 : Int)).toNat ∧ ((AV.v (Value.int IntKind.i64 (0 : Int))).den = (AV.v (Value.int IntKind.i64 (↑(rt - lf + (1 : Int)).toNat : Int))).den ∧ (AV.v (Value.int IntKind.i64 most)).den = (AV.v (Value.int IntKind.i64 most)).den ∧ (AV.os (2 : Nat) x.a x.n (0 : Nat) (0 : Nat) (1 : Nat) x.j x.cap).den = (AV.os (2 : Nat) x.a x.n (0 : Nat) (0 : Nat) (1 : Nat) x.j x.cap).den ∧ (AV.os (2 : Nat) x.a x.n (0 : Nat) (0 : Nat) (1 : Nat) x.j x.cap).den = (AV.os (2 : Nat) x.a x.n (0 : Nat) (0 : Nat) (1 : Nat) x.j x.cap).den ∧ (AV.v (Value.int IntKind.i64 (↑x.j : Int))).den = (AV.v (Value.int IntKind.i64 (↑x.j : Int))).den ∧ True) ∧ To [Blk.mk n (Cont.dl Dw dwD o l S none none) false, Blk.mk n1 (Cont.cells [AV.v (Value.int IntKind.i64 t), AV.v (Value.int IntKind.i64 lf), AV.v (Value.int IntKind.i64 b), AV.v (Value.int IntKind.i64 rt)] (23 : Nat)) true, Blk.mk x.n (Cont.dl Nat ptrD (0 : Nat) (List.map CD.num x_1.cs) x.S (some (x.cap, (60 : TypeId))) (some (x_1.f, [AV.ptr (4 : Nat) x_1.c.num (0 : Nat)]))) true, Blk.mk (0 : Nat) (Cont.res (List CD × List Nat) (x_1.cs.eraseIdx x_1.f, x_1.Sr) (fun (x : List CD × List Nat) => x.snd) (packI colsC)) true, Blk.mk x_1.c.num (Cont.cells [AV.v (Value.string x_1.c.letters), AV.v (Value.int IntKind.i64 x_1.c.width), AV.mp (5 : Nat) x_1.c.mnum] (63 : Nat)) true, Blk.mk x_1.c.mnum (Cont.mape (Int × Dw) kyC vlC mkC x_1.c.es x_1.c.clock) true] [Blk.mk n (Cont.dl Dw dwD o l S none none) false, Blk.mk n1 (Cont.cells [AV.v (Value.int IntKind.i64 t), AV.v (Value.int IntKind.i64 lf), AV.v (Value.int IntKind.i64 b), AV.v (Value.int IntKind.i64 rt)] (23 : Nat)) true, Blk.mk x.n (Cont.dl Nat ptrD (0 : Nat) (List.map CD.num x_2.cs) x.S (some (x.cap, (60 : TypeId))) none) true, Blk.mk (0 : Nat) (Cont.res (List CD × List Nat) (x_2.cs, x_2.Sr) (fun (x : List CD × List Nat) => x.snd) (packI colsC)) true] w) ∧ (∀ (x_2 : FX), x_2.i < (rt - lf + (1 : Int)).toNat ∧ x_2.cs[x_2.i]? = some x_2.c ∧ colsIs l t b lf (fun (j : Nat) => if j < x_2.i then colW l most t (b - t + (1 : Int)).toNat (lf + (↑j : Int)) else (0 : Int)) x_2.cs (rt - lf + (1 : Int)).toNat → br (decide ((↑x_2.i : Int) < (↑x.j : Int))) (((0 : Int) ≤ (↑x_2.i : Int) ∧ (↑x_2.i : Int) < (↑x.j : Int)) ∧ x.n = x.n ∧ (0 : Nat) = (0 : Nat) ∧ (0 : Nat) + (↑x_2.i : Int).toNat < (List.map CD.num x_2.cs).length ∧ (0 : Nat) + (↑x_2.i : Int).toNat = x_2.i ∧ x_2.c.num = x_2.c.num ∧ x_2.c.num = x_2.c.num ∧ x_2.c.num = x_2.c.num ∧ x_2.c.mnum = x_2.c.mnum ∧ ∀ (n8 : Nat), (∃ (x_3 : List Nat × Int), (x_3.fst.Nodup ∧ (∀ (q : Nat), q ∈ x_3.fst → q ∈ List.map (fun (x : (Int × Dw) × Nat) => x.snd) x_2.c.es) ∧ ∀ (B : Int), x_3.snd ≤ B ↔ (↑x_2.c.letters.size : Int) ≤ B ∧ ∀ (a : Int × Dw) (q : Nat), (a, q) ∈ x_2.c.es → q ∈ x_3.fst → min most (↑a.snd.text.size : Int) ≤ B) ∧ ((AV.v (Value.int IntKind.i64 most)).den = (AV.v (Value.int IntKind.i64 most)).den ∧ (AV.os (2 : Nat) x.a x.n (0 : Nat) (0 : Nat) (1 : Nat) x.j x.cap).den = (AV.os (2 : Nat) x.a x.n (0 : Nat) (0 : Nat) (1 : Nat) x.j x.cap).den ∧ (AV.ptr (4 : Nat) x_2.c.num (0 : Nat)).den = (AV.ptr (4 : Nat) x_2.c.num (0 : Nat)).den ∧ (AV.os (2 : Nat) x.a x.n (0 : Nat) (0 : Nat) (1 : Nat) x.j x.cap).den = (AV.os (2 : Nat) x.a x.n (0 : Nat) (0 : Nat) (1 : Nat) x.j x.cap).den ∧ (AV.v (Value.int IntKind.i64 (↑x.j : Int))).den = (AV.v (Value.int IntKind.i64 (↑x.j : Int))).den ∧ (AV.v (Value.int IntKind.i64 (↑x_2.i : Int))).den = (AV.v (Value.int IntKind.i64 (↑x_2.i : Int))).den ∧ (AV.ptr (6 : Nat) n8 (0 : Nat)).den = (AV.ptr (6 : Nat) n8 (0 : Nat)).den ∧ True) ∧ LeH [Blk.mk n (Cont.dl Dw dwD o l S none none) false, Blk.mk n1 (Cont.cells [AV.v (Value.int IntKind.i64 t), AV.v (Value.int IntKind.i64 lf), AV.v (Value.int IntKind.i64 b), AV.v (Value.int IntKind.i64 rt)] (23 : Nat)) true, Blk.mk x.n (Cont.dl Nat ptrD (0 : Nat) (List.map CD.num x_2.cs) x.S (some (x.cap, (60 : TypeId))) (some (x_2.i, [AV.ptr (4 : Nat) x_2.c.num (0 : Nat)]))) true, Blk.mk (0 : Nat) (Cont.res (List CD × List Nat) (x_2.cs.eraseIdx x_2.i, x_2.Sr) (fun (x : List CD × List Nat) => x.snd) (packI colsC)) true, Blk.mk x_2.c.num (Cont.cells [AV.v (Value.string x_2.c.letters), AV.v (Value.int IntKind.i64 (↑x_2.c.letters.size : Int)), AV.mp (5 : Nat) x_2.c.mnum] (63 : Nat)) true, Blk.mk x_2.c.mnum (Cont.mape (Int × Dw) kyC vlC mkC x_2.c.es x_2.c.clock) true, Blk.mk n8 (Cont.itere (5 : Nat) x_2.c.mnum x_2.c.clock []) true] [Blk.mk n (Cont.dl Dw dwD o l S none none) false, Blk.mk n1 (Cont.cells [AV.v (Value.int IntKind.i64 t), AV.v (Value.int IntKind.i64 lf), AV.v (Value.int IntKind.i64 b), AV.v (Value.int IntKind.i64 rt)] (23 : Nat)) true, Blk.mk x.n (Cont.dl Nat ptrD (0 : Nat) (List.map CD.num x_2.cs) x.S (some (x.cap, (60 : TypeId))) (some (x_2.i, [AV.ptr (4 : Nat) x_2.c.num (0 : Nat)]))) true, Blk.mk (0 : Nat) (Cont.res (List CD × List Nat) (x_2.cs.eraseIdx x_2.i, x_2.Sr) (fun (x : List CD × List Nat) => x.snd) (packI colsC)) true, Blk.mk x_2.c.num (Cont.cells [AV.v (Value.string x_2.c.letters), AV.v (Value.int IntKind.i64 x_3.snd), AV.mp (5 : Nat) x_2.c.mnum] (63 : Nat)) true, Blk.mk x_2.c.mnum (Cont.mape (Int × Dw) kyC vlC mkC x_2.c.es x_2.c.clock) true, Blk.mk n8 (Cont.itere (5 : Nat) x_2.c.mnum x_2.c.clock x_3.fst) true]) ∧ ∀ (x_3 : List Nat × Int), (x_3.fst.Nodup ∧ (∀ (q : Nat), q ∈ x_3.fst → q ∈ List.map (fun (x : (Int × Dw) × Nat) => x.snd) x_2.c.es) ∧ ∀ (B : Int), x_3.snd ≤ B ↔ (↑x_2.c.letters.size : Int) ≤ B ∧ ∀ (a : Int × Dw) (q : Nat), (a, q) ∈ x_2.c.es → q ∈ x_3.fst → min most (↑a.snd.text.size : Int) ≤ B) → n8 = n8 ∧ x_2.c.mnum = x_2.c.mnum ∧ x_2.c.clock = x_2.c.clock ∧ (∀ (a : Int × Dw) (n12 : Nat), (a, n12) ∈ x_2.c.es → ¬n12 ∈ x_3.fst → n8 = n8 ∧ x_2.c.mnum = x_2.c.mnum ∧ x_2.c.clock = x_2.c.clock ∧ (∃ (a : Int × Dw), List.Mem (a, n12) x_2.c.es) ∧ ∀ (a : Int × Dw), (a, n12) ∈ x_2.c.es → ∀ (n17 : Nat), n17 = n17 ∧ x_2.c.num = x_2.c.num ∧ n17 = n17 ∧ x_2.c.num = x_2.c.num ∧ ∃ (x' : List Nat × Int), (x'.fst.Nodup ∧ (∀ (q : Nat), q ∈ x'.fst → q ∈ List.map (fun (x : (Int × Dw) × Nat) => x.snd) x_2.c.es) ∧ ∀ (B : Int), x'.snd ≤ B ↔ (↑x_2.c.letters.size : Int) ≤ B ∧ ∀ (a : Int × Dw) (q : Nat), (a, q) ∈ x_2.c.es → q ∈ x'.fst → min most (↑a.snd.text.size : Int) ≤ B) ∧ x_2.c.es.length - x'.fst.length < x_2.c.es.length - x_3.fst.length ∧ ((AV.v (Value.int IntKind.i64 most)).den = (AV.v (Value.int IntKind.i64 most)).den ∧ (AV.os (2 : Nat) x.a x.n (0 : Nat) (0 : Nat) (1 : Nat) x.j x.cap).den = (AV.os (2 : Nat) x.a x.n (0 : Nat) (0 : Nat) (1 : Nat) x.j x.cap).den ∧ (AV.ptr (4 : Nat) x_2.c.num (0 : Nat)).den = (AV.ptr (4 : Nat) x_2.c.num (0 : Nat)).den ∧ (AV.os (2 : Nat) x.a x.n (0 : Nat) (0 : Nat) (1 : Nat) x.j x.cap).den = (AV.os (2 : Nat) x.a x.n (0 : Nat) (0 : Nat) (1 : Nat) x.j x.cap).den ∧ (AV.v (Value.int IntKind.i64 (↑x.j : Int))).den = (AV.v (Value.int IntKind.i64 (↑x.j : Int))).den ∧ (AV.v (Value.int IntKind.i64 (↑x_2.i : Int))).den = (AV.v (Value.int IntKind.i64 (↑x_2.i : Int))).den ∧ (AV.ptr (6 : Nat) n8 (0 : Nat)).den = (AV.ptr (6 : Nat) n8 (0 : Nat)).den ∧ True) ∧ LeH [Blk.mk n (Cont.dl Dw dwD o l S none none) false, Blk.mk n1 (Cont.cells [AV.v (Value.int IntKind.i64 t), AV.v (Value.int IntKind.i64 lf), AV.v (Value.int IntKind.i64 b), AV.v (Value.int IntKind.i64 rt)] (23 : Nat)) true, Blk.mk x.n (Cont.dl Nat ptrD (0 : Nat) (List.map CD.num x_2.cs) x.S (some (x.cap, (60 : TypeId))) (some (x_2.i, [AV.ptr (4 : Nat) x_2.c.num (0 : Nat)]))) true, Blk.mk (0 : Nat) (Cont.res (List CD × List Nat) (x_2.cs.eraseIdx x_2.i, x_2.Sr) (fun (x : List CD × List Nat) => x.snd) (packI colsC)) true, Blk.mk x_2.c.num (Cont.cells [AV.v (Value.string x_2.c.letters), AV.v (Value.int IntKind.i64 (if (if (↑a.snd.text.size : Int) < most then (↑a.snd.text.size : Int) else most) > x_3.snd then if (↑a.snd.text.size : Int) < most then (↑a.snd.text.size : Int) else most else x_3.snd)), AV.mp (5 : Nat) x_2.c.mnum] (63 : Nat)) true, Blk.mk x_2.c.mnum (Cont.mape (Int × Dw) kyC vlC mkC x_2.c.es x_2.c.clock) true, Blk.mk n8 (Cont.itere (5 : Nat) x_2.c.mnum x_2.c.clock (n12 :: x_3.fst)) true, Blk.mk n17 (Cont.cells [AV.v (Value.int IntKind.i64 a.snd.row), AV.v (Value.int IntKind.i64 a.snd.col), AV.v (Value.string a.snd.text), AV.v (Value.int IntKind.i64 a.snd.kind)] (42 : Nat)) true] [Blk.mk n (Cont.dl Dw dwD o l S none none) false, Blk.mk n1 (Cont.cells [AV.v (Value.int IntKind.i64 t), AV.v (Value.int IntKind.i64 lf), AV.v (Value.int IntKind.i64 b), AV.v (Value.int IntKind.i64 rt)] (23 : Nat)) true, Blk.mk x.n (Cont.dl Nat ptrD (0 : Nat) (List.map CD.num x_2.cs) x.S (some (x.cap, (60 : TypeId))) (some (x_2.i, [AV.ptr (4 : Nat) x_2.c.num (0 : Nat)]))) true, Blk.mk (0 : Nat) (Cont.res (List CD × List Nat) (x_2.cs.eraseIdx x_2.i, x_2.Sr) (fun (x : List CD × List Nat) => x.snd) (packI colsC)) true, Blk.mk x_2.c.num (Cont.cells [AV.v (Value.string x_2.c.letters), AV.v (Value.int IntKind.i64 x'.snd), AV.mp (5 : Nat) x_2.c.mnum] (63 : Nat)) true, Blk.mk x_2.c.mnum (Cont.mape (Int × Dw) kyC vlC mkC x_2.c.es x_2.c.clock) true, Blk.mk n8 (Cont.itere (5 : Nat) x_2.c.mnum x_2.c.clock x'.fst) true]) ∧ ((∀ (a : Int × Dw) (b : Nat), (a, b) ∈ x_2.c.es → b ∈ x_3.fst) → ∀ (w : World), HoldsH [Blk.mk n (Cont.dl Dw dwD o l S none none) false, Blk.mk n1 (Cont.cells [AV.v (Value.int IntKind.i64 t), AV.v (Value.int IntKind.i64 lf), AV.v (Value.int IntKind.i64 b), AV.v (Value.int IntKind.i64 rt)] (23 : Nat)) true, Blk.mk x.n (Cont.dl Nat ptrD (0 : Nat) (List.map CD.num x_2.cs) x.S (some (x.cap, (60 : TypeId))) (some (x_2.i, [AV.ptr (4 : Nat) x_2.c.num (0 : Nat)]))) true, Blk.mk (0 : Nat) (Cont.res (List CD × List Nat) (x_2.cs.eraseIdx x_2.i, x_2.Sr) (fun (x : List CD × List Nat) => x.snd) (packI colsC)) true, Blk.mk x_2.c.num (Cont.cells [AV.v (Value.string x_2.c.letters), AV.v (Value.int IntKind.i64 x_3.snd), AV.mp (5 : Nat) x_2.c.mnum] (63 : Nat)) true, Blk.mk x_2.c.mnum (Cont.mape (Int × Dw) kyC vlC mkC x_2.c.es x_2.c.clock) true, Blk.mk n8 (Cont.itere (5 : Nat) x_2.c.mnum x_2.c.clock x_3.fst) true] w → (∃ (x_4 : FX), (x_4.i < (rt - lf + (1 : Int)).toNat ∧ x_4.cs[x_4.i]? = some x_4.c ∧ colsIs l t b lf (fun (j : Nat) => if j < x_4.i then colW l most t (b - t + (1 : Int)).toNat (lf + (↑j : Int)) else (0 : Int)) x_4.cs (rt - lf + (1 : Int)).toNat) ∧ (rt - lf + (1 : Int)).toNat - x_4.i < (rt - lf + (1 : Int)).toNat - x_2.i ∧ ((AV.v (Value.int IntKind.i64 (IntKind.i64.wrap ((↑x_2.i : Int) + (1 : Int))))).den = (AV.v (Value.int IntKind.i64 (↑x_4.i : Int))).den ∧ (AV.v (Value.int IntKind.i64 most)).den = (AV.v (Value.int IntKind.i64 most)).den ∧ (AV.os (2 : Nat) x.a x.n (0 : Nat) (0 : Nat) (1 : Nat) x.j x.cap).den = (AV.os (2 : Nat) x.a x.n (0 : Nat) (0 : Nat) (1 : Nat) x.j x.cap).den ∧ (AV.os (2 : Nat) x.a x.n (0 : Nat) (0 : Nat) (1 : Nat) x.j x.cap).den = (AV.os (2 : Nat) x.a x.n (0 : Nat) (0 : Nat) (1 : Nat) x.j x.cap).den ∧ (AV.v (Value.int IntKind.i64 (↑x.j : Int))).den = (AV.v (Value.int IntKind.i64 (↑x.j : Int))).den ∧ True) ∧ To [Blk.mk n (Cont.dl Dw dwD o l S none none) false, Blk.mk n1 (Cont.cells [AV.v (Value.int IntKind.i64 t), AV.v (Value.int IntKind.i64 lf), AV.v (Value.int IntKind.i64 b), AV.v (Value.int IntKind.i64 rt)] (23 : Nat)) true, Blk.mk x.n (Cont.dl Nat ptrD (0 : Nat) (List.map CD.num x_2.cs) x.S (some (x.cap, (60 : TypeId))) (some (x_2.i, [AV.ptr (4 : Nat) x_2.c.num (0 : Nat)]))) true, Blk.mk (0 : Nat) (Cont.res (List CD × List Nat) (x_2.cs.eraseIdx x_2.i, x_2.Sr) (fun (x : List CD × List Nat) => x.snd) (packI colsC)) true, Blk.mk x_2.c.num (Cont.cells [AV.v (Value.string x_2.c.letters), AV.v (Value.int IntKind.i64 x_3.snd), AV.mp (5 : Nat) x_2.c.mnum] (63 : Nat)) true, Blk.mk x_2.c.mnum (Cont.mape (Int × Dw) kyC vlC mkC x_2.c.es x_2.c.clock) true, Blk.mk n8 (Cont.itere (5 : Nat) x_2.c.mnum x_2.c.clock x_3.fst) true] [Blk.mk n (Cont.dl Dw dwD o l S none none) false, Blk.mk n1 (Cont.cells [AV.v (Value.int IntKind.i64 t), AV.v (Value.int IntKind.i64 lf), AV.v (Value.int IntKind.i64 b), AV.v (Value.int IntKind.i64 rt)] (23 : Nat)) true, Blk.mk x.n (Cont.dl Nat ptrD (0 : Nat) (List.map CD.num x_4.cs) x.S (some (x.cap, (60 : TypeId))) (some (x_4.i, [AV.ptr (4 : Nat) x_4.c.num (0 : Nat)]))) true, Blk.mk (0 : Nat) (Cont.res (List CD × List Nat) (x_4.cs.eraseIdx x_4.i, x_4.Sr) (fun (x : List CD × List Nat) => x.snd) (packI colsC)) true, Blk.mk x_4.c.num (Cont.cells [AV.v (Value.string x_4.c.letters), AV.v (Value.int IntKind.i64 x_4.c.width), AV.mp (5 : Nat) x_4.c.mnum] (63 : Nat)) true, Blk.mk x_4.c.mnum (Cont.mape (Int × Dw) kyC vlC mkC x_4.c.es x_4.c.clock) true] w) ∨ ∃ (x_4 : FX), colsIs l t b lf (fun (j : Nat) => colW l most t (b - t + (1 : Int)).toNat (lf + (↑j : Int))) x_4.cs (rt - lf + (1 : Int)).toNat ∧ (0 : Nat) < (rt - lf + (1 : Int)).toNat - x_2.i ∧ ((AV.v (Value.int IntKind.i64 (IntKind.i64.wrap ((↑x_2.i : Int) + (1 : Int))))).den = (AV.v (Value.int IntKind.i64 (↑(rt - lf + (1 : Int)).toNat : Int))).den ∧ (AV.v (Value.int IntKind.i64 most)).den = (AV.v (Value.int IntKind.i64 most)).den ∧ (AV.os (2 : Nat) x.a x.n (0 : Nat) (0 : Nat) (1 : Nat) x.j x.cap).den = (AV.os (2 : Nat) x.a x.n (0 : Nat) (0 : Nat) (1 : Nat) x.j x.cap).den ∧ (AV.os (2 : Nat) x.a x.n (0 : Nat) (0 : Nat) (1 : Nat) x.j x.cap).den = (AV.os (2 : Nat) x.a x.n (0 : Nat) (0 : Nat) (1 : Nat) x.j x.cap).den ∧ (AV.v (Value.int IntKind.i64 (↑x.j : Int))).den = (AV.v (Value.int IntKind.i64 (↑x.j : Int))).den ∧ True) ∧ To [Blk.mk n (Cont.dl Dw dwD o l S none none) false, Blk.mk n1 (Cont.cells [AV.v (Value.int IntKind.i64 t), AV.v (Value.int IntKind.i64 lf), AV.v (Value.int IntKind.i64 b), AV.v (Value.int IntKind.i64 rt)] (23 : Nat)) true, Blk.mk x.n (Cont.dl Nat ptrD (0 : Nat) (List.map CD.num x_2.cs) x.S (some (x.cap, (60 : TypeId))) (some (x_2.i, [AV.ptr (4 : Nat) x_2.c.num (0 : Nat)]))) true, Blk.mk (0 : Nat) (Cont.res (List CD × List Nat) (x_2.cs.eraseIdx x_2.i, x_2.Sr) (fun (x : List CD × List Nat) => x.snd) (packI colsC)) true, Blk.mk x_2.c.num (Cont.cells [AV.v (Value.string x_2.c.letters), AV.v (Value.int IntKind.i64 x_3.snd), AV.mp (5 : Nat) x_2.c.mnum] (63 : Nat)) true, Blk.mk x_2.c.mnum (Cont.mape (Int × Dw) kyC vlC mkC x_2.c.es x_2.c.clock) true, Blk.mk n8 (Cont.itere (5 : Nat) x_2.c.mnum x_2.c.clock x_3.fst) true] [Blk.mk n (Cont.dl Dw dwD o l S none none) false, Blk.mk n1 (Cont.cells [AV.v (Value.int IntKind.i64 t), AV.v (Value.int IntKind.i64 lf), AV.v (Value.int IntKind.i64 b), AV.v (Value.int IntKind.i64 rt)] (23 : Nat)) true, Blk.mk x.n (Cont.dl Nat ptrD (0 : Nat) (List.map CD.num x_4.cs) x.S (some (x.cap, (60 : TypeId))) none) true, Blk.mk (0 : Nat) (Cont.res (List CD × List Nat) (x_4.cs, x_4.Sr) (fun (x : List CD × List Nat) => x.snd) (packI colsC)) true] w)) (R (AV.os (2 : Nat) x.a x.n (0 : Nat) (0 : Nat) (1 : Nat) x.j x.cap) [Blk.mk n (Cont.dl Dw dwD o l S none none) false, Blk.mk n1 (Cont.cells [AV.v (Value.int IntKind.i64 t), AV.v (Value.int IntKind.i64 lf), AV.v (Value.int IntKind.i64 b), AV.v (Value.int IntKind.i64 rt)] (23 : Nat)) true, Blk.mk x.n (Cont.dl Nat ptrD (0 : Nat) (List.map CD.num x_2.cs) x.S (some (x.cap, (60 : TypeId))) (some (x_2.i, [AV.ptr (4 : Nat) x_2.c.num (0 : Nat)]))) true, Blk.mk (0 : Nat) (Cont.res (List CD × List Nat) (x_2.cs.eraseIdx x_2.i, x_2.Sr) (fun (x : List CD × List Nat) => x.snd) (packI colsC)) true, Blk.mk x_2.c.num (Cont.cells [AV.v (Value.string x_2.c.letters), AV.v (Value.int IntKind.i64 x_2.c.width), AV.mp (5 : Nat) x_2.c.mnum] (63 : Nat)) true, Blk.mk x_2.c.mnum (Cont.mape (Int × Dw) kyC vlC mkC x_2.c.es x_2.c.clock) true])) ∧ ∀ (x_2 : FX), colsIs l t b lf (fun (j : Nat) => colW l most t (b - t + (1 : Int)).toNat (lf + (↑j : Int))) x_2.cs (rt - lf + (1 : Int)).toNat → br (decide ((↑(rt - lf + (1 : Int)).toNat : Int) < (↑x.j : Int))) (((0 : Int) ≤ (↑(rt - lf + (1 : Int)).toNat : Int) ∧ (↑(rt - lf + (1 : Int)).toNat : Int) < (↑x.j : Int)) ∧ x.n = x.n ∧ (0 : Nat) = (0 : Nat) ∧ (0 : Nat) + (↑(rt - lf + (1 : Int)).toNat : Int).toNat < (List.map CD.num x_2.cs).length ∧ False) (R (AV.os (2 : Nat) x.a x.n (0 : Nat) (0 : Nat) (1 : Nat) x.j x.cap) [Blk.mk n (Cont.dl Dw dwD o l S none none) false, Blk.mk n1 (Cont.cells [AV.v (Value.int IntKind.i64 t), AV.v (Value.int IntKind.i64 lf), AV.v (Value.int IntKind.i64 b), AV.v (Value.int IntKind.i64 rt)] (23 : Nat)) true, Blk.mk x.n (Cont.dl Nat ptrD (0 : Nat) (List.map CD.num x_2.cs) x.S (some (x.cap, (60 : TypeId))) none) true, Blk.mk (0 : Nat) (Cont.res (List CD × List Nat) (x_2.cs, x_2.Sr) (fun (x : List CD × List Nat) => x.snd) (packI colsC)) true]))))) : LC Tryd.prog 24 [.agg [.v (.int .i64 t), .v (.int .i64 lf), .v (.int .i64 b), .v (.int .i64 rt)], .os 0 a n o 0 4 l.length cap, .v (.int .i64 most)] [rD dwD n o l S false] R :=
  lc_of_exec (tbl := tbCl) tab_ok tbCl_ok mixed ((colJ l most t lf b rt)) 2 _ Tryd.func24 rfl Tryd.ntmps24 (by decide) (by kernel_rfl) (Nat.le_of_ble_eq_true rfl) (@Eq.mpr (execN tab tbCl ((colJ l most t lf b rt)) 2 Tryd.f24.ntmps [] none 0 (body Tryd.f24) (argsT [.agg [.v (.int .i64 t), .v (.int .i64 lf), .v (.int .i64 b), .v (.int .i64 rt)], .os 0 a n o 0 4 l.length cap, .v (.int .i64 most)] 0) [rD dwD n o l S false] (post Tryd.f24 tab (retK R))) _ (by kernel_rfl) h)


end Go.Proofs.YthkegefjmcipmaaDoor

namespace Go.Eng
open Go Go.Sp Go.Proofs.YthkegefjmcipmaaDoor

theorem perm_erase {α : Type} : ∀ {l : List α} {f : Nat} {c : α}, l[f]? = some c → l.Perm (c :: l.eraseIdx f)
  | [], _, _, h => by simp at h
  | a :: l, 0, c, h => by simp at h; subst h; exact List.Perm.refl _
  | a :: l, f + 1, c, h => by
    have := perm_erase (l := l) (f := f) (c := c) (by simpa using h)
    exact (List.Perm.cons a this).trans (List.Perm.swap ..)

abbrev lsB (ln : Nat) (cs : List CD) (Sl : List Nat) (wr : Option (Nat × TypeId)) (foc : Option (Nat × List AV)) : Blk := ⟨ln, .dl Nat ptrD 0 (cs.map CD.num) Sl wr foc, true⟩
abbrev fcH (b0 b1 : Blk) (ln : Nat) (Sl : List Nat) (wr : Option (Nat × TypeId)) (cs : List CD) (f : Nat) (c : CD) (Sr : List Nat) : HH := [b0, b1, lsB ln cs Sl wr (some (f, [.ptr 4 c.num 0])), colsB (cs.eraseIdx f) Sr, cdF c, cdM c]
abbrev clH (b0 b1 : Blk) (ln : Nat) (Sl : List Nat) (wr : Option (Nat × TypeId)) (cs : List CD) (S : List Nat) : HH := [b0, b1, lsB ln cs Sl wr none, colsB cs S]

theorem num_at {cs : List CD} {f : Nat} {c : CD} (h : cs[f]? = some c) : dAt (cs.map CD.num) ptrD.z f = c.num := by
  obtain ⟨h1, h2⟩ := List.getElem?_eq_some_iff.1 h
  rw [dAt_lt (by simpa using h1)]
  simp [h2]

theorem cl_open {b0 b1 : Blk} {ln : Nat} {Sl : List Nat} {wr : Option (Nat × TypeId)} {cs : List CD} {f : Nat} {c : CD} {S : List Nat} {w : World} (hc : cs[f]? = some c) (hw : HoldsH (clH b0 b1 ln Sl wr cs S) w) :
    ∃ Sr, To (clH b0 b1 ln Sl wr cs S) (fcH b0 b1 ln Sl wr cs f c Sr) w := by
  have l1 : LeH (clH b0 b1 ln Sl wr cs S) (colsB cs S :: [b0, b1, lsB ln cs Sl wr none]) := leAt [3, 0, 1, 2] (by decide) ⟨LeB.refl _, LeB.refl _, LeB.refl _, LeB.refl _, trivial⟩
  have t1 := l1.to hw
  obtain ⟨Sr, t2⟩ := cols_open (perm_erase hc) t1.hp
  have l2 : LeH (colsB (cs.eraseIdx f) Sr :: ([b0, b1, lsB ln cs Sl wr none] ++ [cdS c, cdM c])) (fcH b0 b1 ln Sl wr cs f c Sr) := leAt [1, 2, 3, 0, 4, 5] (by decide) ⟨LeB.refl _, LeB.refl _, LeB.dl_foc (fun h => h) (.inr rfl) rfl (by rw [num_at hc]; rfl), LeB.refl _, LeB.cells rfl (fun h => h), LeB.refl _, trivial⟩
  exact ⟨Sr, (t1.trans t2).trans (l2.to t2.hp)⟩

theorem fc_close {b0 b1 : Blk} {ln : Nat} {Sl : List Nat} {wr : Option (Nat × TypeId)} {cs : List CD} {f : Nat} {c c1 : CD} {foc : Option (Nat × List AV)} {Sr : List Nat} {H : HH} {w : World} (hc : cs[f]? = some c) (hn : c1.num = c.num)
    (hw : HoldsH H w) (hl : LeH H [b0, b1, lsB ln cs Sl wr foc, colsB (cs.eraseIdx f) Sr, cdS c1, cdM c1]) : ∃ S, To H (clH b0 b1 ln Sl wr (cs.set f c1) S) w := by
  have t0 := hl.to hw
  have l1 : LeH [b0, b1, lsB ln cs Sl wr foc, colsB (cs.eraseIdx f) Sr, cdS c1, cdM c1] (colsB (cs.eraseIdx f) Sr :: ([b0, b1, lsB ln cs Sl wr none] ++ [cdS c1, cdM c1])) := leAt [3, 0, 1, 2, 4, 5] (by decide) ⟨LeB.refl _, LeB.refl _, LeB.refl _, LeB.dl (fun h => h) (.inr rfl), LeB.refl _, LeB.refl _, trivial⟩
  have t1 := l1.to t0.hp
  obtain ⟨hf, e⟩ := List.getElem?_eq_some_iff.1 hc
  have p : (c1 :: cs.eraseIdx f).Perm (cs.set f c1) := by
    have := perm_erase (l := cs.set f c1) (f := f) (c := c1) (by simp [hf])
    rw [List.eraseIdx_set_eq] at this
    exact this.symm
  obtain ⟨S, t2⟩ := cols_close p t1.hp
  have e2 : (cs.set f c1).map CD.num = cs.map CD.num := by
    rw [List.map_set, hn, ← e]
    have : (cs[f]).num = (cs.map CD.num)[f]'(by simpa using hf) := by simp
    rw [this, List.set_getElem_self]
  have l2 : LeH (colsB (cs.set f c1) S :: [b0, b1, lsB ln cs Sl wr none]) (clH b0 b1 ln Sl wr (cs.set f c1) S) := leAt [1, 2, 3, 0] (by decide) ⟨LeB.refl _, LeB.refl _, (by rw [lsB, lsB, e2]; exact LeB.refl _), LeB.refl _, trivial⟩
  exact ⟨S, ((t0.trans t1).trans t2).trans (l2.to t2.hp)⟩

theorem cols_snoc {b0 b1 Lb : Blk} {cs : List CD} {c : CD} {Sc : List Nat} {H : HH} {w : World} (hw : HoldsH H w) (hl : LeH H (colsB cs Sc :: ([b0, b1, Lb] ++ [cdS c, cdM c]))) : ∃ S, To H [b0, b1, Lb, colsB (cs ++ [c]) S] w := by
  have t1 := hl.to hw
  obtain ⟨S, t2⟩ := cols_close (cs := cs ++ [c]) (List.perm_append_singleton c cs).symm t1.hp
  have l2 : LeH (colsB (cs ++ [c]) S :: [b0, b1, Lb]) [b0, b1, Lb, colsB (cs ++ [c]) S] := leAt [1, 2, 3, 0] (by decide) ⟨LeB.refl _, LeB.refl _, LeB.refl _, LeB.refl _, trivial⟩
  exact ⟨S, (t1.trans t2).trans (l2.to t2.hp)⟩

theorem focC_lt {t lf b rt : Int} (hr : okR t lf b rt = true) (l : List Dw) (i : Nat) : focC l t lf b rt i < (rt - lf + 1).toNat := by
  obtain ⟨r1, r2, r3, r4, r5, r6⟩ := okR_b hr
  unfold focC
  split
  · rename_i h
    unfold inF at h
    simp only [Bool.and_eq_true, decide_eq_true_eq] at h
    omega
  · omega

theorem take_one (l : List Dw) {i : Nat} (h : i < l.length) : l.take (i + 1) = l.take i ++ [dAt l dwD.z i] := by
  rw [List.take_succ_eq_append_getElem h, dAt_lt h]

theorem map_born {n : Nat} : LeB ⟨n, .mapc [] 0, true⟩ ⟨n, .mape (Int × Dw) kyC vlC mkC [] 0, true⟩ :=
  ⟨fun _ h => h, id, fun w h => ⟨h, List.nodup_nil, fun e (he : e ∈ []) => (by cases he), fun k v a h => mkC_eq h⟩⟩

theorem _root_.Go.Sp.colsIs.nil (t b lf : Int) (wid : Nat → Int) : colsIs [] t b lf wid [] 0 :=
  ⟨rfl, fun i c h => (by simp at h), fun i c h => (by simp at h), fun i c h => (by simp at h)⟩

theorem _root_.Go.Sp.colsIs.snoc {t b lf : Int} {cs : List CD} {j : Nat} (h : colsIs [] t b lf (fun _ => 0) cs j) (n m : Nat) : colsIs [] t b lf (fun _ => 0) (cs ++ [⟨n, m, strL (lf + (j : Int)), 0, [], 0⟩]) (j + 1) := by
  have hm : ∀ (i : Nat) (c : CD), (cs ++ [(⟨n, m, strL (lf + (j : Int)), 0, [], 0⟩ : CD)])[i]? = some c → cs[i]? = some c ∨ (i = j ∧ c = ⟨n, m, strL (lf + (j : Int)), 0, [], 0⟩) := fun i c hi => by
    rcases Nat.lt_or_ge i cs.length with h1 | h1
    · rw [List.getElem?_append_left h1] at hi; exact .inl hi
    · rw [List.getElem?_append_right h1] at hi
      have : i - cs.length = 0 := by
        rcases Nat.eq_zero_or_pos (i - cs.length) with h2 | h2
        · exact h2
        · rw [List.getElem?_eq_none (by simp; omega)] at hi; cases hi
      rw [this] at hi
      simp at hi
      exact .inr ⟨by have := h.len; omega, hi.symm⟩
  refine ⟨by rw [List.length_append, h.len]; rfl, fun i c hi => ?_, fun i c hi => ?_, fun i c hi => ?_⟩
  · rcases hm i c hi with h1 | ⟨rfl, rfl⟩
    · exact h.ltr i c h1
    · rfl
  · rcases hm i c hi with h1 | ⟨rfl, rfl⟩
    · exact h.wde i c h1
    · rfl
  · rcases hm i c hi with h1 | ⟨rfl, rfl⟩
    · exact h.ent i c h1
    · exact entsOk.nil ..

theorem _root_.Go.Sp.colsIs.idx {p : List Dw} {t b lf : Int} {wid : Nat → Int} {cs : List CD} {m i : Nat} {c : CD} (h : colsIs p t b lf wid cs m) (hi : cs[i]? = some c) : i < m := by
  have := (List.getElem?_eq_some_iff.1 hi).1
  have := h.len
  omega

/-- Another thing, in no column. -/
theorem _root_.Go.Sp.colsIs.skip {p : List Dw} {t b lf : Int} {wid : Nat → Int} {cs : List CD} {m : Nat} (h : colsIs p t b lf wid cs m) {d : Dw} (hd : ¬ (t ≤ d.row ∧ d.row ≤ b ∧ lf ≤ d.col ∧ d.col < lf + (m : Int))) : colsIs (p ++ [d]) t b lf wid cs m :=
  ⟨h.len, h.ltr, h.wde, fun i c hi => (h.ent i c hi).skip fun e => hd (by have := h.idx hi; omega)⟩

theorem set_get {α : Type} {l : List α} {f i : Nat} {a c : α} (h : (l.set f a)[i]? = some c) : (i = f ∧ c = a) ∨ (i ≠ f ∧ l[i]? = some c) := by
  rw [List.getElem?_set] at h
  split at h
  · rename_i e
    split at h
    · cases h; exact .inl ⟨e.symm, rfl⟩
    · cases h
  · rename_i e
    exact .inr ⟨fun h => e h.symm, h⟩

/-- A thing in its column. -/
theorem _root_.Go.Sp.colsIs.put {p : List Dw} {t b lf : Int} {wid : Nat → Int} {cs : List CD} {m : Nat} (h : colsIs p t b lf wid cs m) {d : Dw} {f : Nat} {c c1 : CD} (hc : cs[f]? = some c) (hf : d.col = lf + (f : Int)) (h1 : c1.letters = c.letters) (h2 : c1.width = c.width) (h3 : entsOk (p ++ [d]) t b (lf + (f : Int)) c1.es c1.clock) : colsIs (p ++ [d]) t b lf wid (cs.set f c1) m := by
  refine ⟨by rw [List.length_set]; exact h.len, fun i c' hi => ?_, fun i c' hi => ?_, fun i c' hi => ?_⟩
  · rcases set_get hi with ⟨rfl, rfl⟩ | ⟨e, hi⟩
    · rw [h1]; exact h.ltr _ _ hc
    · exact h.ltr _ _ hi
  · rcases set_get hi with ⟨rfl, rfl⟩ | ⟨e, hi⟩
    · rw [h2]; exact h.wde _ _ hc
    · exact h.wde _ _ hi
  · rcases set_get hi with ⟨rfl, rfl⟩ | ⟨e, hi⟩
    · exact h3
    · exact (h.ent i c' hi).skip fun e' => e (by omega)

/-- A column's width is told. -/
theorem _root_.Go.Sp.colsIs.wide {p : List Dw} {t b lf : Int} {wid wid' : Nat → Int} {cs : List CD} {m : Nat} (h : colsIs p t b lf wid cs m) {f : Nat} {c c1 : CD} (hc : cs[f]? = some c) (h1 : c1.letters = c.letters) (h2 : c1.width = wid' f) (h3 : c1.es = c.es) (h4 : c1.clock = c.clock) (h5 : ∀ i, i < m → i ≠ f → wid' i = wid i) : colsIs p t b lf wid' (cs.set f c1) m := by
  refine ⟨by rw [List.length_set]; exact h.len, fun i c' hi => ?_, fun i c' hi => ?_, fun i c' hi => ?_⟩
  · rcases set_get hi with ⟨rfl, rfl⟩ | ⟨e, hi⟩
    · rw [h1]; exact h.ltr _ _ hc
    · exact h.ltr _ _ hi
  · rcases set_get hi with ⟨rfl, rfl⟩ | ⟨e, hi⟩
    · exact h2
    · rw [h5 i (h.idx hi) e]; exact h.wde _ _ hi
  · rcases set_get hi with ⟨rfl, rfl⟩ | ⟨e, hi⟩
    · rw [h3, h4]; exact h.ent _ _ hc
    · exact h.ent i c' hi

theorem _root_.Go.Sp.colsIs.some {p : List Dw} {t b lf : Int} {wid : Nat → Int} {cs : List CD} {m : Nat} (h : colsIs p t b lf wid cs m) {f : Nat} (hf : f < m) : ∃ c, cs[f]? = some c :=
  ⟨cs[f]'(by rw [h.len]; exact hf), List.getElem?_eq_getElem _⟩

/-- A width, over all that was seen. -/
theorem width_is {l : List Dw} {most t b lf : Int} {i : Nat} {es : List ((Int × Dw) × Nat)} {ck : Nat} (he : entsOk l t b (lf + (i : Int)) es ck) {w : Int} (hm : 1 ≤ most) (h : ∀ B : Int, w ≤ B ↔ ((strL (lf + (i : Int))).size : Int) ≤ B ∧ ∀ a q, (a, q) ∈ es → min most (a.2.text.size : Int) ≤ B) : w = colW l most t (b - t + 1).toNat (lf + (i : Int)) := by
  have key : ∀ B : Int, w ≤ B ↔ colW l most t (b - t + 1).toNat (lf + (i : Int)) ≤ B := fun B => by
    rw [h B, colW_le]
    constructor
    · rintro ⟨h1, h2⟩
      refine ⟨h1, fun k hk => ?_⟩
      rcases atD_in l (t + (k : Int)) (lf + (i : Int)) with h3 | ⟨h3, h4⟩
      · obtain ⟨g1, g2⟩ := atD_place l (t + (k : Int)) (lf + (i : Int))
        obtain ⟨a, q, ha, e⟩ := he.all _ h3 g2 (by omega) (by omega)
        have := h2 a q ha
        obtain ⟨v1, v2, v3⟩ := he.val a q ha
        rw [v1, e, g1] at this
        exact this
      · rw [h4]
        have : ((ByteArray.mk #[]).size : Int) = 0 := rfl
        show min most ((ByteArray.mk #[]).size : Int) ≤ B
        rw [this]; omega
    · rintro ⟨h1, h2⟩
      refine ⟨h1, fun a q ha => ?_⟩
      obtain ⟨v1, v2, v3⟩ := he.val a q ha
      have := h2 (a.1 - t).toNat (by omega)
      rw [v1]
      rw [show t + ((a.1 - t).toNat : Int) = a.1 by omega] at this
      exact this
  have k1 := (key _).2 (Int.le_refl _)
  have k2 := (key w).1 (Int.le_refl _)
  omega

theorem maps_eq {w : World} {n clock : Nat} {es : List ((Int × Dw) × Nat)} (h : (Cont.mape (Int × Dw) kyC vlC mkC es clock).holds w n) : (es.map (·.2)).Nodup := h.2.1

end Go.Eng

namespace Go.Proofs.YthkegefjmcipmaaDoor
open Go Go.Eng Go.Sp
set_option linter.unusedVariables false
set_option linter.unusedSimpArgs false

set_option maxHeartbeats 4000000 in
theorem cols_lc (t lf b rt : Int) (l : List Dw) (a : Option Addr) (n o cap : Nat) (S : List Nat) (most : Int) (hr : okR t lf b rt = true) (hm : 1 ≤ most ∧ most ≤ 60) (ha : (b - t + 1) * (rt - lf + 1) ≤ 4096) (hl : l.length ≤ 1048576) :
    LC Tryd.prog 24 [.agg [.v (.int .i64 t), .v (.int .i64 lf), .v (.int .i64 b), .v (.int .i64 rt)], .os 0 a n o 0 4 l.length cap, .v (.int .i64 most)] [rD dwD n o l S false] (fun z H' =>
      ∃ (a : Option Addr) (nn c : Nat) (Sl : List Nat) (cs : List CD) (Sc : List Nat), z.den = (AV.os 0 a nn 0 0 1 (rt - lf + 1).toNat c).den ∧ colsIs l t b lf (fun j => colW l most t (b - t + 1).toNat (lf + (j : Int))) cs (rt - lf + 1).toNat ∧
        LeH H' [⟨nn, .dl Nat ptrD 0 (cs.map CD.num) Sl none none, true⟩, colsB cs Sc]) :=
  cols_vc t lf b rt l a n o cap S most (by
    simp only [true_and, and_true, Int.toNat_natCast, Nat.zero_add, Nat.le_refl, List.set_cons_succ, List.set_cons_zero]
    obtain ⟨r1, r2, r3, r4, r5, r6⟩ := okR_b hr
    have mpos : 0 < (rt - lf + 1).toNat := by omega
    intro n1
    refine ⟨fun w hw => ?_, fun x hx => ?_⟩
    · have l1 : ∀ b1 : Blk, LeH [rD dwD n o l S false, b1] [rD dwD n o l S false, b1, wD ptrD 0 [] [] 0 60, colsB [] []] := fun b1 =>
        (LeH.more (H := [rD dwD n o l S false, b1]) (b := wD ptrD 0 [] [] 0 60) rfl fun w => dl_nil ptrD_ok (.inr ⟨_, rfl, rfl⟩)).trans (LeH.more (H := [rD dwD n o l S false, b1, wD ptrD 0 [] [] 0 60]) (b := colsB [] []) rfl colsB_nil)
      exact ⟨⟨0, none, 0, 0, [], [], []⟩, ⟨Nat.zero_le _, fun _ => .inl rfl, Nat.le_refl _, colsIs.nil ..⟩, ⟨by simp, rfl⟩, (l1 _).to hw⟩
    obtain ⟨x1, x2, x3, x4⟩ := hx
    refine br_intro (fun hle n4 n5 n6 => ?_) (fun hgt => ?_)
    · have hle := of_decide_eq_true hle
      refine ⟨by rw [List.length_map, x4.len]; exact Nat.le_refl _, x2, x3, ⟨by omega, by omega⟩, fun a' n8 n9 S' k1 k2 w hw => ?_⟩
      rw [List.take_of_length_le (by rw [List.length_map, x4.len]; exact Nat.le_refl _)] at hw ⊢
      obtain ⟨S2, t2⟩ := cols_snoc (c := ⟨n5, n4, strL (lf + (x.j : Int)), 0, [], 0⟩) hw (leAt [3, 0, 1, 2, 5, 4] (by decide) ⟨LeB.refl _, LeB.refl _, LeB.refl _, LeB.refl _, LeB.cells rfl (fun h => h), map_born, trivial⟩)
      refine ⟨⟨x.j + 1, a', n8, n9, S', x.cs ++ [⟨n5, n4, strL (lf + (x.j : Int)), 0, [], 0⟩], S2⟩, ⟨by show x.j + 1 ≤ _; omega, k2, k1, x4.snoc n5 n4⟩, by show _ - (x.j + 1) < _; omega, ⟨by rw [w64 (by omega)]; simp only [AV.den]; congr 1; omega, rfl⟩, ?_⟩
      rw [List.map_append]
      exact t2
    have hj : x.j = (rt - lf + 1).toNat := by have := of_decide_eq_false hgt; omega
    have hcast : (x.j : Int) = rt - lf + 1 := by omega
    refine ⟨fun w hw => ?_, fun y hy => ?_⟩
    · obtain ⟨c, hc⟩ := x4.some (f := focC l t lf b rt 0) (by rw [hj]; exact focC_lt hr l 0)
      obtain ⟨Sr, t1⟩ := cl_open hc hw
      exact ⟨⟨0, _, c, x.cs, Sr⟩, ⟨Nat.zero_le _, hc, rfl, by rw [List.take_zero]; exact hj ▸ x4⟩, rfl, t1⟩
    obtain ⟨y1, y2, y3, y4⟩ := hy
    have go : ∀ {H : HH} {w : World} {c1 : CD} (i : Nat), i = y.i + 1 → i ≤ l.length → ∀ {b0 b1 : Blk} {ln : Nat} {Sl : List Nat} {wr : Option (Nat × TypeId)} {S : List Nat}, To H (clH b0 b1 ln Sl wr (y.cs.set y.f c1) S) w → colsIs (l.take i) t b lf (fun _ => 0) (y.cs.set y.f c1) (rt - lf + 1).toNat → ∃ z : FX, (z.i ≤ l.length ∧ z.cs[z.f]? = some z.c ∧ z.f = focC l t lf b rt z.i ∧ colsIs (l.take z.i) t b lf (fun _ => 0) z.cs (rt - lf + 1).toNat) ∧ l.length - z.i < l.length - y.i ∧ (AV.v (.int .i64 (IntKind.i64.wrap ((y.i : Int) + 1)))).den = (AV.v (.int .i64 (z.i : Int))).den ∧ To H (fcH b0 b1 ln Sl wr z.cs z.f z.c z.Sr) w := by
      rintro H w c1 i rfl hi b0 b1 ln Sl wr S t2 h5
      obtain ⟨c2, hc2⟩ := h5.some (focC_lt hr l (y.i + 1))
      obtain ⟨Sr2, t3⟩ := cl_open hc2 t2.hp
      exact ⟨⟨y.i + 1, _, c2, _, Sr2⟩, ⟨hi, hc2, rfl, h5⟩, by show l.length - (y.i + 1) < _; omega, by rw [w64 (by omega)]; rfl, t2.trans t3⟩
    refine br_intro (fun hlt => ?_) (fun hge => ?_)
    · have hlt : y.i < l.length := by have := of_decide_eq_true hlt; omega
      refine ⟨⟨by omega, by omega⟩, hlt, fun n6 => br_intro (fun hin => ?_) (fun hnin => ?_)⟩
      · have hin' := hin
        unfold inF at hin'
        simp only [Bool.and_eq_true, decide_eq_true_eq] at hin'
        have ew : IntKind.i64.wrap ((dAt l dwD.z y.i).col - lf) = (dAt l dwD.z y.i).col - lf := w64 (by omega)
        have hf : y.f = ((dAt l dwD.z y.i).col - lf).toNat := by rw [y3, focC, if_pos hin]
        have hc : (dAt l dwD.z y.i).col = lf + (y.f : Int) := by omega
        have hent := y4.ent _ _ y2
        rw [ew]
        refine ⟨⟨by omega, by omega⟩, by rw [List.length_map, y4.len]; omega, hf.symm, fun a3 q hq => br_intro (fun he w hw => ?_) (fun _ => trivial), fun hno w hw => ?_⟩
        · have he : (dAt l dwD.z y.i).row = a3.1 := by simpa using he
          obtain ⟨S2, t2⟩ := fc_close (c1 := { y.c with es := setE y.c.es q ((dAt l dwD.z y.i).row, dAt l dwD.z y.i) }) y2 rfl hw (leAt [0, 1, 2, 3, 4, 5] (by decide) ⟨LeB.refl _, LeB.refl _, LeB.refl _, LeB.refl _, LeB.cells rfl (fun h => h), LeB.refl _, trivial⟩)
          exact go _ rfl hlt t2 (by
            rw [take_one l hlt]
            exact y4.put y2 hc rfl rfl (hent.set hc hin'.2.1 hin'.2.2.1 hq he.symm))
        · obtain ⟨S2, t2⟩ := fc_close (c1 := { y.c with es := y.c.es ++ [(((dAt l dwD.z y.i).row, dAt l dwD.z y.i), y.c.clock)], clock := y.c.clock + 1 }) y2 rfl hw (leAt [0, 1, 2, 3, 4, 5] (by decide) ⟨LeB.refl _, LeB.refl _, LeB.refl _, LeB.refl _, LeB.cells rfl (fun h => h), LeB.refl _, trivial⟩)
          exact go _ rfl hlt t2 (by
            rw [take_one l hlt]
            exact y4.put y2 hc rfl rfl (hent.add hc hin'.2.1 hin'.2.2.1 fun a' q' h' e => by have := hno a' q' h'; simp [e] at this))
      · intro w hw
        obtain ⟨S2, t2⟩ := fc_close (c1 := y.c) y2 rfl hw (leAt [0, 1, 2, 3, 4, 5] (by decide) ⟨LeB.refl _, LeB.refl _, LeB.refl _, LeB.refl _, LeB.cells rfl (fun h => h), LeB.refl _, trivial⟩)
        exact go _ rfl hlt t2 (by
          rw [take_one l hlt]
          have e : y.cs.set y.f y.c = y.cs := by
            obtain ⟨h1, h2⟩ := List.getElem?_eq_some_iff.1 y2
            rw [← h2, List.set_getElem_self]
          rw [e]
          refine y4.skip fun hd => ?_
          unfold inF at hnin
          simp only [hr, Bool.true_and, decide_eq_false_iff_not] at hnin
          omega)
    have hge : y.i = l.length := by have := of_decide_eq_false hge; omega
    have y5 : colsIs l t b lf (fun _ => 0) y.cs (rt - lf + 1).toNat := by
      have := y4
      rw [hge, List.take_length] at this
      exact this
    refine ⟨fun w hw => .inl ?_, fun z hz => ?_, fun z hz => ?_⟩
    · obtain ⟨S2, t2⟩ := fc_close (c1 := y.c) y2 rfl hw (leAt [0, 1, 2, 3, 4, 5] (by decide) ⟨LeB.refl _, LeB.refl _, LeB.refl _, LeB.refl _, LeB.cells rfl (fun h => h), LeB.refl _, trivial⟩)
      have e : y.cs.set y.f y.c = y.cs := by
        obtain ⟨h1, h2⟩ := List.getElem?_eq_some_iff.1 y2
        rw [← h2, List.set_getElem_self]
      rw [e] at t2
      obtain ⟨c, hc⟩ := y5.some mpos
      obtain ⟨Sr, t3⟩ := cl_open hc t2.hp
      exact ⟨⟨0, 0, c, y.cs, Sr⟩, ⟨mpos, hc, by simpa using y5⟩, rfl, t2.trans t3⟩
    · obtain ⟨z1, z2, z3⟩ := hz
      refine br_intro (fun _ => ?_) (fun h => absurd (of_decide_eq_false h) (by omega))
      refine ⟨⟨by omega, by omega⟩, by rw [List.length_map, z3.len]; exact z1, fun n8 => ⟨⟨([], _), ⟨List.nodup_nil, fun q hq => (by cases hq), fun B => ⟨fun h => ⟨h, fun a q _ hq => (by cases hq)⟩, fun h => h.1⟩⟩, LeH.refl _⟩, fun u hu => ?_⟩⟩
      obtain ⟨u1, u2, u3⟩ := hu
      have zent := z3.ent _ _ z2
      refine ⟨fun a q hq hn => ⟨⟨a, hq⟩, fun a' hq' n17 => ?_⟩, fun hall w hw => ?_⟩
      · have hle : (q :: u.1).length ≤ z.c.es.length := by
          have := List.Nodup.length_le_of_subset (l₂ := z.c.es.map (·.2)) (List.nodup_cons.2 ⟨hn, u1⟩) (fun c hc => by
            rcases List.mem_cons.1 hc with rfl | hc
            · exact List.mem_map.2 ⟨_, hq, rfl⟩
            · exact u2 c hc)
          simpa using this
        refine ⟨(q :: u.1, _), ⟨List.nodup_cons.2 ⟨hn, u1⟩, fun c hc => ?_, fun B => ?_⟩, ?_, leAt [0, 1, 2, 3, 4, 5, 6] (by decide) ⟨LeB.refl _, LeB.refl _, LeB.refl _, LeB.refl _, LeB.refl _, LeB.refl _, LeB.refl _, trivial⟩⟩
        · rcases List.mem_cons.1 hc with rfl | hc
          · exact List.mem_map.2 ⟨_, hq, rfl⟩
          · exact u2 c hc
        · have e : ∀ A : Int, (if (if A < most then A else most) > u.2 then if A < most then A else most else u.2) ≤ B ↔ u.2 ≤ B ∧ min most A ≤ B := fun A => by
            repeat' split
            all_goals omega
          refine (e _).trans ?_
          rw [u3 B]
          constructor
          · rintro ⟨⟨g1, g2⟩, g3⟩
            refine ⟨g1, fun a2 q2 h2 h3 => ?_⟩
            rcases List.mem_cons.1 h3 with rfl | h3
            · rw [born_uniq zent.born h2 hq']; exact g3
            · exact g2 a2 q2 h2 h3
          · rintro ⟨g1, g2⟩
            exact ⟨⟨g1, fun a2 q2 h2 h3 => g2 a2 q2 h2 (List.mem_cons_of_mem _ h3)⟩, g2 a' q hq' (List.mem_cons_self ..)⟩
        · show _ - (q :: u.1).length < _
          simp only [List.length_cons] at hle ⊢
          omega
      · have ew : u.2 = colW l most t (b - t + 1).toNat (lf + (z.i : Int)) := width_is zent hm.1 fun B => by
          rw [u3 B, z3.ltr _ _ z2]
          exact ⟨fun h => ⟨h.1, fun a q ha => h.2 a q ha (hall a q ha)⟩, fun h => ⟨h.1, fun a q ha _ => h.2 a q ha⟩⟩
        obtain ⟨S2, t2⟩ := fc_close (c1 := { z.c with width := u.2 }) z2 rfl hw (leAt [0, 1, 2, 3, 4, 5] (by decide) ⟨LeB.refl _, LeB.refl _, LeB.refl _, LeB.refl _, LeB.cells rfl (fun h => h), LeB.refl _, trivial⟩)
        have z4 : colsIs l t b lf (fun j => if j < z.i + 1 then colW l most t (b - t + 1).toNat (lf + (j : Int)) else 0) (z.cs.set z.i { z.c with width := u.2 }) (rt - lf + 1).toNat := z3.wide z2 rfl (by
          show u.2 = if z.i < z.i + 1 then _ else _
          rw [if_pos (by omega)]; exact ew) rfl rfl (fun j h1 h2 => by
          by_cases h3 : j < z.i
          · simp only [if_pos h3, if_pos (show j < z.i + 1 by omega)]
          · simp only [if_neg h3, if_neg (show ¬ j < z.i + 1 by omega)])
        by_cases hz : z.i + 1 < (rt - lf + 1).toNat
        · refine .inl ?_
          obtain ⟨c, hc⟩ := z4.some hz
          obtain ⟨Sr, t3⟩ := cl_open hc t2.hp
          exact ⟨⟨z.i + 1, 0, c, _, Sr⟩, ⟨hz, hc, z4⟩, by show _ - (z.i + 1) < _; omega, by rw [w64 (by omega)]; rfl, t2.trans t3⟩
        · refine .inr ⟨⟨0, 0, z.c, _, S2⟩, ?_, by omega, by rw [w64 (by omega)]; simp only [AV.den]; congr 1; omega, t2⟩
          refine ⟨z4.len, z4.ltr, fun i c hi => ?_, z4.ent⟩
          have := z4.wde i c hi
          simp only [if_pos (show i < z.i + 1 by have := z4.idx hi; omega)] at this
          exact this
    · refine br_intro (fun h => absurd (of_decide_eq_true h) (by omega)) (fun _ => ?_)
      exact ⟨x.a, x.n, x.cap, x.S, z.cs, z.Sr, by rw [hj]; rfl, hz, leAt [2, 3] (by decide) ⟨LeB.dl (fun h => h) (.inl rfl), LeB.refl _, trivial⟩⟩)

end Go.Proofs.YthkegefjmcipmaaDoor

