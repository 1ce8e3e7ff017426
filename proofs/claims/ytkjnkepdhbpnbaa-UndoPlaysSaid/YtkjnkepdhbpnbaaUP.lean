/- Undo: a step of both: its condition. -/
import Derived.Test.YtkjnkepdhbpnbaaUM
namespace Go.Proofs.Ytkjnkepdhbpnbaa
open Go Go.Eng Go.Sp
set_option linter.unusedVariables false
set_option linter.unusedSimpArgs false

def tbSt : Tbl := (28, .gen rbackH) :: (15, .gen backH) :: (29, .gen ragainH) :: (16, .gen againH) :: (30, .gen rmarkH) :: (23, .gen markH) :: (31, .gen rtoH) :: (24, .gen toO) :: (17, .gen samePO) :: (32, .gen rpushH) :: (13, .gen pushH) :: []

theorem tbSt_ok : TblOk Try.prog tbSt := ⟨rback_ok, backH_ok, ragain_ok, againH_ok, rmark_ok, markH_ok, rto_ok, toO_ok, samep_ok, rpush_ok, pushH_ok, trivial⟩


set_option maxRecDepth 100000 in
theorem stp_vc (s : HS) (S : List Nat) (x : RH) (Sx : List Nat) (b3 : Option Addr) (n3 o3 c3 : Nat) (M : List (ByteArray × Int)) (S3 : List Nat) (kind X : Int) (nm : ByteArray) {R : AV → HH → Prop} (h : (∀ (n1 n2 n3_1 : Nat), n2 = n2 ∧ br (kind == (1 : Int)) (n1 = n1 ∧ ∃ (x_1 : RH), ∃ (S_1 : List Nat), ∃ (a3 : Option Addr), ∃ (l3 : Nat), ∃ (c3_1 : Nat), some (Blk.mk (0 : Nat) (Cont.res (RH × List Nat) (x, Sx) (fun (x : RH × List Nat) => x.snd) (packI refC)) true) = some (Blk.mk (0 : Nat) (Cont.res (RH × List Nat) (x_1, S_1) (fun (x : RH × List Nat) => x.snd) (packI refC)) true) ∧ AV.agg [AV.v (Value.int IntKind.i64 x_1.1), AV.v (Value.slice x_1.a1 x_1.D.length x_1.c1), AV.v (Value.slice x_1.a2 x_1.U.length x_1.c2), AV.os (2 : Nat) b3 n3 o3 (0 : Nat) (2 : Nat) M.length c3] = AV.agg [AV.v (Value.int IntKind.i64 x.1), AV.v (Value.slice x.a1 x.D.length x.c1), AV.v (Value.slice x.a2 x.U.length x.c2), AV.os (2 : Nat) b3 n3 o3 (0 : Nat) (2 : Nat) M.length c3] ∧ (AV.os (2 : Nat) b3 n3 o3 (0 : Nat) (2 : Nat) M.length c3).den = Value.slice a3 l3 c3_1 ∧ (x_1.D.length ≤ (1048576 : Nat) ∧ x_1.U.length ≤ (1048576 : Nat)) ∧ ∀ (x' : RH) (y code : Int) (S' : List Nat), relB x_1 x' y code → ∀ (n14 : Nat), n14 = n14 ∧ ∃ (s_1 : HS), ∃ (S_2 : List Nat), s.hn = s_1.hn ∧ some (Blk.mk s.hn (Cont.res (HS × List Nat) (s, S) (fun (x : HS × List Nat) => x.snd) (packI histC)) true) = some (Blk.mk s_1.hn (Cont.res (HS × List Nat) (s_1, S_2) (fun (x : HS × List Nat) => x.snd) (packI histC)) true) ∧ s_1.ok ∧ ∀ (S'_1 : List Nat), (s_1.at_ = (0 : Nat) → n14 = n14 ∧ br (y == (0 : Int)) (n3_1 = n3_1 ∧ n3_1 = n3_1 ∧ R (AV.tup [AV.agg [AV.v (Value.int IntKind.i64 x'.1), AV.v (Value.slice x'.a1 x'.D.length x'.c1), AV.v (Value.slice x'.a2 x'.U.length x'.c2), AV.os (2 : Nat) b3 n3 o3 (0 : Nat) (2 : Nat) M.length c3], AV.v (Value.bool ((12 : Int) == code))]) [Blk.mk s_1.hn (Cont.res (HS × List Nat) (s_1, S'_1) (fun (x : HS × List Nat) => x.snd) (packI histC)) true, Blk.mk (0 : Nat) (Cont.res (RH × List Nat) (x', S') (fun (x : RH × List Nat) => x.snd) (packI refC)) true, Blk.mk n3 (Cont.lst o3 M.length [Col.strs (atP1 M), Col.ints IntKind.i64 (atP2 M)] S3 none) true, Blk.mk n1 (Cont.cells [AV.v (Value.int IntKind.i64 x.1), AV.v (Value.slice x.a1 x.D.length x.c1), AV.v (Value.slice x.a2 x.U.length x.c2), AV.os (2 : Nat) b3 n3 o3 (0 : Nat) (2 : Nat) M.length c3] (38 : Nat)) true, Blk.mk n2 (Cont.cells [AV.v (Value.int IntKind.i64 kind), AV.v (Value.int IntKind.i64 X), AV.v (Value.string nm)] (43 : Nat)) true, Blk.mk n3_1 (Cont.cells [AV.v (Value.int IntKind.i64 x'.1), AV.v (Value.slice x'.a1 x'.D.length x'.c1), AV.v (Value.slice x'.a2 x'.U.length x'.c2), AV.os (2 : Nat) b3 n3 o3 (0 : Nat) (2 : Nat) M.length c3] (38 : Nat)) true, Blk.mk n14 (Cont.cells [AV.v (Value.int IntKind.i64 x'.1), AV.v (Value.slice x'.a1 x'.D.length x'.c1), AV.v (Value.slice x'.a2 x'.U.length x'.c2), AV.os (2 : Nat) b3 n3 o3 (0 : Nat) (2 : Nat) M.length c3] (38 : Nat)) true]) (n3_1 = n3_1 ∧ n3_1 = n3_1 ∧ R (AV.tup [AV.agg [AV.v (Value.int IntKind.i64 x'.1), AV.v (Value.slice x'.a1 x'.D.length x'.c1), AV.v (Value.slice x'.a2 x'.U.length x'.c2), AV.os (2 : Nat) b3 n3 o3 (0 : Nat) (2 : Nat) M.length c3], AV.v (Value.bool false)]) [Blk.mk s_1.hn (Cont.res (HS × List Nat) (s_1, S'_1) (fun (x : HS × List Nat) => x.snd) (packI histC)) true, Blk.mk (0 : Nat) (Cont.res (RH × List Nat) (x', S') (fun (x : RH × List Nat) => x.snd) (packI refC)) true, Blk.mk n3 (Cont.lst o3 M.length [Col.strs (atP1 M), Col.ints IntKind.i64 (atP2 M)] S3 none) true, Blk.mk n1 (Cont.cells [AV.v (Value.int IntKind.i64 x.1), AV.v (Value.slice x.a1 x.D.length x.c1), AV.v (Value.slice x.a2 x.U.length x.c2), AV.os (2 : Nat) b3 n3 o3 (0 : Nat) (2 : Nat) M.length c3] (38 : Nat)) true, Blk.mk n2 (Cont.cells [AV.v (Value.int IntKind.i64 kind), AV.v (Value.int IntKind.i64 X), AV.v (Value.string nm)] (43 : Nat)) true, Blk.mk n3_1 (Cont.cells [AV.v (Value.int IntKind.i64 x'.1), AV.v (Value.slice x'.a1 x'.D.length x'.c1), AV.v (Value.slice x'.a2 x'.U.length x'.c2), AV.os (2 : Nat) b3 n3 o3 (0 : Nat) (2 : Nat) M.length c3] (38 : Nat)) true, Blk.mk n14 (Cont.cells [AV.v (Value.int IntKind.i64 x'.1), AV.v (Value.slice x'.a1 x'.D.length x'.c1), AV.v (Value.slice x'.a2 x'.U.length x'.c2), AV.os (2 : Nat) b3 n3 o3 (0 : Nat) (2 : Nat) M.length c3] (38 : Nat)) true])) ∧ ((0 : Nat) < s_1.at_ → n14 = n14 ∧ br (y == s_1.5 (s_1.at_ - (1 : Nat))) (n3_1 = n3_1 ∧ n3_1 = n3_1 ∧ R (AV.tup [AV.agg [AV.v (Value.int IntKind.i64 x'.1), AV.v (Value.slice x'.a1 x'.D.length x'.c1), AV.v (Value.slice x'.a2 x'.U.length x'.c2), AV.os (2 : Nat) b3 n3 o3 (0 : Nat) (2 : Nat) M.length c3], AV.v (Value.bool ((0 : Int) == code))]) [Blk.mk s_1.back.hn (Cont.res (HS × List Nat) (s_1.back, S'_1) (fun (x : HS × List Nat) => x.snd) (packI histC)) true, Blk.mk (0 : Nat) (Cont.res (RH × List Nat) (x', S') (fun (x : RH × List Nat) => x.snd) (packI refC)) true, Blk.mk n3 (Cont.lst o3 M.length [Col.strs (atP1 M), Col.ints IntKind.i64 (atP2 M)] S3 none) true, Blk.mk n1 (Cont.cells [AV.v (Value.int IntKind.i64 x.1), AV.v (Value.slice x.a1 x.D.length x.c1), AV.v (Value.slice x.a2 x.U.length x.c2), AV.os (2 : Nat) b3 n3 o3 (0 : Nat) (2 : Nat) M.length c3] (38 : Nat)) true, Blk.mk n2 (Cont.cells [AV.v (Value.int IntKind.i64 kind), AV.v (Value.int IntKind.i64 X), AV.v (Value.string nm)] (43 : Nat)) true, Blk.mk n3_1 (Cont.cells [AV.v (Value.int IntKind.i64 x'.1), AV.v (Value.slice x'.a1 x'.D.length x'.c1), AV.v (Value.slice x'.a2 x'.U.length x'.c2), AV.os (2 : Nat) b3 n3 o3 (0 : Nat) (2 : Nat) M.length c3] (38 : Nat)) true, Blk.mk n14 (Cont.cells [AV.v (Value.int IntKind.i64 x'.1), AV.v (Value.slice x'.a1 x'.D.length x'.c1), AV.v (Value.slice x'.a2 x'.U.length x'.c2), AV.os (2 : Nat) b3 n3 o3 (0 : Nat) (2 : Nat) M.length c3] (38 : Nat)) true]) (n3_1 = n3_1 ∧ n3_1 = n3_1 ∧ R (AV.tup [AV.agg [AV.v (Value.int IntKind.i64 x'.1), AV.v (Value.slice x'.a1 x'.D.length x'.c1), AV.v (Value.slice x'.a2 x'.U.length x'.c2), AV.os (2 : Nat) b3 n3 o3 (0 : Nat) (2 : Nat) M.length c3], AV.v (Value.bool false)]) [Blk.mk s_1.back.hn (Cont.res (HS × List Nat) (s_1.back, S'_1) (fun (x : HS × List Nat) => x.snd) (packI histC)) true, Blk.mk (0 : Nat) (Cont.res (RH × List Nat) (x', S') (fun (x : RH × List Nat) => x.snd) (packI refC)) true, Blk.mk n3 (Cont.lst o3 M.length [Col.strs (atP1 M), Col.ints IntKind.i64 (atP2 M)] S3 none) true, Blk.mk n1 (Cont.cells [AV.v (Value.int IntKind.i64 x.1), AV.v (Value.slice x.a1 x.D.length x.c1), AV.v (Value.slice x.a2 x.U.length x.c2), AV.os (2 : Nat) b3 n3 o3 (0 : Nat) (2 : Nat) M.length c3] (38 : Nat)) true, Blk.mk n2 (Cont.cells [AV.v (Value.int IntKind.i64 kind), AV.v (Value.int IntKind.i64 X), AV.v (Value.string nm)] (43 : Nat)) true, Blk.mk n3_1 (Cont.cells [AV.v (Value.int IntKind.i64 x'.1), AV.v (Value.slice x'.a1 x'.D.length x'.c1), AV.v (Value.slice x'.a2 x'.U.length x'.c2), AV.os (2 : Nat) b3 n3 o3 (0 : Nat) (2 : Nat) M.length c3] (38 : Nat)) true, Blk.mk n14 (Cont.cells [AV.v (Value.int IntKind.i64 x'.1), AV.v (Value.slice x'.a1 x'.D.length x'.c1), AV.v (Value.slice x'.a2 x'.U.length x'.c2), AV.os (2 : Nat) b3 n3 o3 (0 : Nat) (2 : Nat) M.length c3] (38 : Nat)) true]))) (br (kind == (2 : Int)) (n1 = n1 ∧ ∃ (x_1 : RH), ∃ (S_1 : List Nat), ∃ (a3 : Option Addr), ∃ (l3 : Nat), ∃ (c3_1 : Nat), some (Blk.mk (0 : Nat) (Cont.res (RH × List Nat) (x, Sx) (fun (x : RH × List Nat) => x.snd) (packI refC)) true) = some (Blk.mk (0 : Nat) (Cont.res (RH × List Nat) (x_1, S_1) (fun (x : RH × List Nat) => x.snd) (packI refC)) true) ∧ AV.agg [AV.v (Value.int IntKind.i64 x_1.1), AV.v (Value.slice x_1.a1 x_1.D.length x_1.c1), AV.v (Value.slice x_1.a2 x_1.U.length x_1.c2), AV.os (2 : Nat) b3 n3 o3 (0 : Nat) (2 : Nat) M.length c3] = AV.agg [AV.v (Value.int IntKind.i64 x.1), AV.v (Value.slice x.a1 x.D.length x.c1), AV.v (Value.slice x.a2 x.U.length x.c2), AV.os (2 : Nat) b3 n3 o3 (0 : Nat) (2 : Nat) M.length c3] ∧ (AV.os (2 : Nat) b3 n3 o3 (0 : Nat) (2 : Nat) M.length c3).den = Value.slice a3 l3 c3_1 ∧ (x_1.D.length ≤ (1048576 : Nat) ∧ x_1.U.length ≤ (1048576 : Nat)) ∧ ∀ (x' : RH) (y code : Int) (S' : List Nat), relA x_1 x' y code → ∀ (n14 : Nat), n14 = n14 ∧ ∃ (s_1 : HS), ∃ (S_2 : List Nat), s.hn = s_1.hn ∧ some (Blk.mk s.hn (Cont.res (HS × List Nat) (s, S) (fun (x : HS × List Nat) => x.snd) (packI histC)) true) = some (Blk.mk s_1.hn (Cont.res (HS × List Nat) (s_1, S_2) (fun (x : HS × List Nat) => x.snd) (packI histC)) true) ∧ s_1.ok ∧ ∀ (S'_1 : List Nat), (s_1.at_ = s_1.len → n14 = n14 ∧ br (y == (0 : Int)) (n3_1 = n3_1 ∧ n3_1 = n3_1 ∧ R (AV.tup [AV.agg [AV.v (Value.int IntKind.i64 x'.1), AV.v (Value.slice x'.a1 x'.D.length x'.c1), AV.v (Value.slice x'.a2 x'.U.length x'.c2), AV.os (2 : Nat) b3 n3 o3 (0 : Nat) (2 : Nat) M.length c3], AV.v (Value.bool ((12 : Int) == code))]) [Blk.mk s_1.hn (Cont.res (HS × List Nat) (s_1, S'_1) (fun (x : HS × List Nat) => x.snd) (packI histC)) true, Blk.mk (0 : Nat) (Cont.res (RH × List Nat) (x', S') (fun (x : RH × List Nat) => x.snd) (packI refC)) true, Blk.mk n3 (Cont.lst o3 M.length [Col.strs (atP1 M), Col.ints IntKind.i64 (atP2 M)] S3 none) true, Blk.mk n1 (Cont.cells [AV.v (Value.int IntKind.i64 x.1), AV.v (Value.slice x.a1 x.D.length x.c1), AV.v (Value.slice x.a2 x.U.length x.c2), AV.os (2 : Nat) b3 n3 o3 (0 : Nat) (2 : Nat) M.length c3] (38 : Nat)) true, Blk.mk n2 (Cont.cells [AV.v (Value.int IntKind.i64 kind), AV.v (Value.int IntKind.i64 X), AV.v (Value.string nm)] (43 : Nat)) true, Blk.mk n3_1 (Cont.cells [AV.v (Value.int IntKind.i64 x'.1), AV.v (Value.slice x'.a1 x'.D.length x'.c1), AV.v (Value.slice x'.a2 x'.U.length x'.c2), AV.os (2 : Nat) b3 n3 o3 (0 : Nat) (2 : Nat) M.length c3] (38 : Nat)) true, Blk.mk n14 (Cont.cells [AV.v (Value.int IntKind.i64 x'.1), AV.v (Value.slice x'.a1 x'.D.length x'.c1), AV.v (Value.slice x'.a2 x'.U.length x'.c2), AV.os (2 : Nat) b3 n3 o3 (0 : Nat) (2 : Nat) M.length c3] (38 : Nat)) true]) (n3_1 = n3_1 ∧ n3_1 = n3_1 ∧ R (AV.tup [AV.agg [AV.v (Value.int IntKind.i64 x'.1), AV.v (Value.slice x'.a1 x'.D.length x'.c1), AV.v (Value.slice x'.a2 x'.U.length x'.c2), AV.os (2 : Nat) b3 n3 o3 (0 : Nat) (2 : Nat) M.length c3], AV.v (Value.bool false)]) [Blk.mk s_1.hn (Cont.res (HS × List Nat) (s_1, S'_1) (fun (x : HS × List Nat) => x.snd) (packI histC)) true, Blk.mk (0 : Nat) (Cont.res (RH × List Nat) (x', S') (fun (x : RH × List Nat) => x.snd) (packI refC)) true, Blk.mk n3 (Cont.lst o3 M.length [Col.strs (atP1 M), Col.ints IntKind.i64 (atP2 M)] S3 none) true, Blk.mk n1 (Cont.cells [AV.v (Value.int IntKind.i64 x.1), AV.v (Value.slice x.a1 x.D.length x.c1), AV.v (Value.slice x.a2 x.U.length x.c2), AV.os (2 : Nat) b3 n3 o3 (0 : Nat) (2 : Nat) M.length c3] (38 : Nat)) true, Blk.mk n2 (Cont.cells [AV.v (Value.int IntKind.i64 kind), AV.v (Value.int IntKind.i64 X), AV.v (Value.string nm)] (43 : Nat)) true, Blk.mk n3_1 (Cont.cells [AV.v (Value.int IntKind.i64 x'.1), AV.v (Value.slice x'.a1 x'.D.length x'.c1), AV.v (Value.slice x'.a2 x'.U.length x'.c2), AV.os (2 : Nat) b3 n3 o3 (0 : Nat) (2 : Nat) M.length c3] (38 : Nat)) true, Blk.mk n14 (Cont.cells [AV.v (Value.int IntKind.i64 x'.1), AV.v (Value.slice x'.a1 x'.D.length x'.c1), AV.v (Value.slice x'.a2 x'.U.length x'.c2), AV.os (2 : Nat) b3 n3 o3 (0 : Nat) (2 : Nat) M.length c3] (38 : Nat)) true])) ∧ (s_1.at_ < s_1.len → n14 = n14 ∧ br (y == s_1.5 s_1.at_) (n3_1 = n3_1 ∧ n3_1 = n3_1 ∧ R (AV.tup [AV.agg [AV.v (Value.int IntKind.i64 x'.1), AV.v (Value.slice x'.a1 x'.D.length x'.c1), AV.v (Value.slice x'.a2 x'.U.length x'.c2), AV.os (2 : Nat) b3 n3 o3 (0 : Nat) (2 : Nat) M.length c3], AV.v (Value.bool ((0 : Int) == code))]) [Blk.mk s_1.again.hn (Cont.res (HS × List Nat) (s_1.again, S'_1) (fun (x : HS × List Nat) => x.snd) (packI histC)) true, Blk.mk (0 : Nat) (Cont.res (RH × List Nat) (x', S') (fun (x : RH × List Nat) => x.snd) (packI refC)) true, Blk.mk n3 (Cont.lst o3 M.length [Col.strs (atP1 M), Col.ints IntKind.i64 (atP2 M)] S3 none) true, Blk.mk n1 (Cont.cells [AV.v (Value.int IntKind.i64 x.1), AV.v (Value.slice x.a1 x.D.length x.c1), AV.v (Value.slice x.a2 x.U.length x.c2), AV.os (2 : Nat) b3 n3 o3 (0 : Nat) (2 : Nat) M.length c3] (38 : Nat)) true, Blk.mk n2 (Cont.cells [AV.v (Value.int IntKind.i64 kind), AV.v (Value.int IntKind.i64 X), AV.v (Value.string nm)] (43 : Nat)) true, Blk.mk n3_1 (Cont.cells [AV.v (Value.int IntKind.i64 x'.1), AV.v (Value.slice x'.a1 x'.D.length x'.c1), AV.v (Value.slice x'.a2 x'.U.length x'.c2), AV.os (2 : Nat) b3 n3 o3 (0 : Nat) (2 : Nat) M.length c3] (38 : Nat)) true, Blk.mk n14 (Cont.cells [AV.v (Value.int IntKind.i64 x'.1), AV.v (Value.slice x'.a1 x'.D.length x'.c1), AV.v (Value.slice x'.a2 x'.U.length x'.c2), AV.os (2 : Nat) b3 n3 o3 (0 : Nat) (2 : Nat) M.length c3] (38 : Nat)) true]) (n3_1 = n3_1 ∧ n3_1 = n3_1 ∧ R (AV.tup [AV.agg [AV.v (Value.int IntKind.i64 x'.1), AV.v (Value.slice x'.a1 x'.D.length x'.c1), AV.v (Value.slice x'.a2 x'.U.length x'.c2), AV.os (2 : Nat) b3 n3 o3 (0 : Nat) (2 : Nat) M.length c3], AV.v (Value.bool false)]) [Blk.mk s_1.again.hn (Cont.res (HS × List Nat) (s_1.again, S'_1) (fun (x : HS × List Nat) => x.snd) (packI histC)) true, Blk.mk (0 : Nat) (Cont.res (RH × List Nat) (x', S') (fun (x : RH × List Nat) => x.snd) (packI refC)) true, Blk.mk n3 (Cont.lst o3 M.length [Col.strs (atP1 M), Col.ints IntKind.i64 (atP2 M)] S3 none) true, Blk.mk n1 (Cont.cells [AV.v (Value.int IntKind.i64 x.1), AV.v (Value.slice x.a1 x.D.length x.c1), AV.v (Value.slice x.a2 x.U.length x.c2), AV.os (2 : Nat) b3 n3 o3 (0 : Nat) (2 : Nat) M.length c3] (38 : Nat)) true, Blk.mk n2 (Cont.cells [AV.v (Value.int IntKind.i64 kind), AV.v (Value.int IntKind.i64 X), AV.v (Value.string nm)] (43 : Nat)) true, Blk.mk n3_1 (Cont.cells [AV.v (Value.int IntKind.i64 x'.1), AV.v (Value.slice x'.a1 x'.D.length x'.c1), AV.v (Value.slice x'.a2 x'.U.length x'.c2), AV.os (2 : Nat) b3 n3 o3 (0 : Nat) (2 : Nat) M.length c3] (38 : Nat)) true, Blk.mk n14 (Cont.cells [AV.v (Value.int IntKind.i64 x'.1), AV.v (Value.slice x'.a1 x'.D.length x'.c1), AV.v (Value.slice x'.a2 x'.U.length x'.c2), AV.os (2 : Nat) b3 n3 o3 (0 : Nat) (2 : Nat) M.length c3] (38 : Nat)) true]))) (br (kind == (3 : Int)) (n1 = n1 ∧ n2 = n2 ∧ ∃ (M_1 : List (ByteArray × Int)), ∃ (S3_1 : List Nat), ∃ (w : Bool), some (Blk.mk n3 (Cont.lst o3 M.length [Col.strs (atP1 M), Col.ints IntKind.i64 (atP2 M)] S3 none) true) = some (Blk.mk n3 (Cont.lst o3 M_1.length [Col.strs (atP1 M_1), Col.ints IntKind.i64 (atP2 M_1)] S3_1 none) w) ∧ M.length = M_1.length ∧ M_1.length ≤ (1048576 : Nat) ∧ (∀ (code : Int), badMk M_1 nm code → ∀ (n9 : Nat), n9 = n9 ∧ n9 = n9 ∧ n2 = n2 ∧ ∃ (s_1 : HS), ∃ (S_1 : List Nat), s.hn = s_1.hn ∧ some (Blk.mk s.hn (Cont.res (HS × List Nat) (s, S) (fun (x : HS × List Nat) => x.snd) (packI histC)) true) = some (Blk.mk s_1.hn (Cont.res (HS × List Nat) (s_1, S_1) (fun (x : HS × List Nat) => x.snd) (packI histC)) true) ∧ s_1.ok ∧ ∀ (S' : List Nat), (nm.size = (0 : Nat) ∨ (20 : Nat) < nm.size → some (Blk.mk n9 (Cont.cells [AV.v (Value.int IntKind.i64 x.1), AV.v (Value.slice x.a1 x.D.length x.c1), AV.v (Value.slice x.a2 x.U.length x.c2), AV.os (2 : Nat) b3 n3 o3 (0 : Nat) (2 : Nat) M.length c3] (38 : Nat)) true) = some (Blk.mk n9 (Cont.cells [AV.v (Value.int IntKind.i64 x.1), AV.v (Value.slice x.a1 x.D.length x.c1), AV.v (Value.slice x.a2 x.U.length x.c2), AV.os (2 : Nat) b3 n3 o3 (0 : Nat) (2 : Nat) M.length c3] (38 : Nat)) true) ∧ n3_1 = n3_1 ∧ some (Blk.mk n2 (Cont.cells [AV.v (Value.int IntKind.i64 kind), AV.v (Value.int IntKind.i64 X), AV.v (Value.string nm)] (43 : Nat)) true) = some (Blk.mk n2 (Cont.cells [AV.v (Value.int IntKind.i64 kind), AV.v (Value.int IntKind.i64 X), AV.v (Value.string nm)] (43 : Nat)) true) ∧ n3_1 = n3_1 ∧ R (AV.tup [AV.agg [AV.v (Value.int IntKind.i64 x.1), AV.v (Value.slice x.a1 x.D.length x.c1), AV.v (Value.slice x.a2 x.U.length x.c2), AV.os (2 : Nat) b3 n3 o3 (0 : Nat) (2 : Nat) M.length c3], AV.v (Value.bool ((2 : Int) == code))]) [Blk.mk s_1.hn (Cont.res (HS × List Nat) (s_1, S') (fun (x : HS × List Nat) => x.snd) (packI histC)) true, Blk.mk (0 : Nat) (Cont.res (RH × List Nat) (x, Sx) (fun (x : RH × List Nat) => x.snd) (packI refC)) true, Blk.mk n3 (Cont.lst o3 M.length [Col.strs (atP1 M), Col.ints IntKind.i64 (atP2 M)] S3 none) true, Blk.mk n1 (Cont.cells [AV.v (Value.int IntKind.i64 x.1), AV.v (Value.slice x.a1 x.D.length x.c1), AV.v (Value.slice x.a2 x.U.length x.c2), AV.os (2 : Nat) b3 n3 o3 (0 : Nat) (2 : Nat) M.length c3] (38 : Nat)) true, Blk.mk n2 (Cont.cells [AV.v (Value.int IntKind.i64 kind), AV.v (Value.int IntKind.i64 X), AV.v (Value.string nm)] (43 : Nat)) true, Blk.mk n3_1 (Cont.cells [AV.v (Value.int IntKind.i64 x.1), AV.v (Value.slice x.a1 x.D.length x.c1), AV.v (Value.slice x.a2 x.U.length x.c2), AV.os (2 : Nat) b3 n3 o3 (0 : Nat) (2 : Nat) M.length c3] (38 : Nat)) true, Blk.mk n9 (Cont.cells [AV.v (Value.int IntKind.i64 x.1), AV.v (Value.slice x.a1 x.D.length x.c1), AV.v (Value.slice x.a2 x.U.length x.c2), AV.os (2 : Nat) b3 n3 o3 (0 : Nat) (2 : Nat) M.length c3] (38 : Nat)) true]) ∧ (¬(nm.size = (0 : Nat) ∨ (20 : Nat) < nm.size) → (∀ (v : Int) (n15 : Nat), ((nm, v), n15) ∈ s_1.es → some (Blk.mk n9 (Cont.cells [AV.v (Value.int IntKind.i64 x.1), AV.v (Value.slice x.a1 x.D.length x.c1), AV.v (Value.slice x.a2 x.U.length x.c2), AV.os (2 : Nat) b3 n3 o3 (0 : Nat) (2 : Nat) M.length c3] (38 : Nat)) true) = some (Blk.mk n9 (Cont.cells [AV.v (Value.int IntKind.i64 x.1), AV.v (Value.slice x.a1 x.D.length x.c1), AV.v (Value.slice x.a2 x.U.length x.c2), AV.os (2 : Nat) b3 n3 o3 (0 : Nat) (2 : Nat) M.length c3] (38 : Nat)) true) ∧ n3_1 = n3_1 ∧ some (Blk.mk n2 (Cont.cells [AV.v (Value.int IntKind.i64 kind), AV.v (Value.int IntKind.i64 X), AV.v (Value.string nm)] (43 : Nat)) true) = some (Blk.mk n2 (Cont.cells [AV.v (Value.int IntKind.i64 kind), AV.v (Value.int IntKind.i64 X), AV.v (Value.string nm)] (43 : Nat)) true) ∧ n3_1 = n3_1 ∧ R (AV.tup [AV.agg [AV.v (Value.int IntKind.i64 x.1), AV.v (Value.slice x.a1 x.D.length x.c1), AV.v (Value.slice x.a2 x.U.length x.c2), AV.os (2 : Nat) b3 n3 o3 (0 : Nat) (2 : Nat) M.length c3], AV.v (Value.bool ((0 : Int) == code))]) [Blk.mk (s_1.remark nm n15).hn (Cont.res (HS × List Nat) (s_1.remark nm n15, S') (fun (x : HS × List Nat) => x.snd) (packI histC)) true, Blk.mk (0 : Nat) (Cont.res (RH × List Nat) (x, Sx) (fun (x : RH × List Nat) => x.snd) (packI refC)) true, Blk.mk n3 (Cont.lst o3 M.length [Col.strs (atP1 M), Col.ints IntKind.i64 (atP2 M)] S3 none) true, Blk.mk n1 (Cont.cells [AV.v (Value.int IntKind.i64 x.1), AV.v (Value.slice x.a1 x.D.length x.c1), AV.v (Value.slice x.a2 x.U.length x.c2), AV.os (2 : Nat) b3 n3 o3 (0 : Nat) (2 : Nat) M.length c3] (38 : Nat)) true, Blk.mk n2 (Cont.cells [AV.v (Value.int IntKind.i64 kind), AV.v (Value.int IntKind.i64 X), AV.v (Value.string nm)] (43 : Nat)) true, Blk.mk n3_1 (Cont.cells [AV.v (Value.int IntKind.i64 x.1), AV.v (Value.slice x.a1 x.D.length x.c1), AV.v (Value.slice x.a2 x.U.length x.c2), AV.os (2 : Nat) b3 n3 o3 (0 : Nat) (2 : Nat) M.length c3] (38 : Nat)) true, Blk.mk n9 (Cont.cells [AV.v (Value.int IntKind.i64 x.1), AV.v (Value.slice x.a1 x.D.length x.c1), AV.v (Value.slice x.a2 x.U.length x.c2), AV.os (2 : Nat) b3 n3 o3 (0 : Nat) (2 : Nat) M.length c3] (38 : Nat)) true]) ∧ ((∀ (v : Int) (b : Nat), ¬((nm, v), b) ∈ s_1.es) → ((16 : Nat) ≤ List.length s_1.es → some (Blk.mk n9 (Cont.cells [AV.v (Value.int IntKind.i64 x.1), AV.v (Value.slice x.a1 x.D.length x.c1), AV.v (Value.slice x.a2 x.U.length x.c2), AV.os (2 : Nat) b3 n3 o3 (0 : Nat) (2 : Nat) M.length c3] (38 : Nat)) true) = some (Blk.mk n9 (Cont.cells [AV.v (Value.int IntKind.i64 x.1), AV.v (Value.slice x.a1 x.D.length x.c1), AV.v (Value.slice x.a2 x.U.length x.c2), AV.os (2 : Nat) b3 n3 o3 (0 : Nat) (2 : Nat) M.length c3] (38 : Nat)) true) ∧ n3_1 = n3_1 ∧ some (Blk.mk n2 (Cont.cells [AV.v (Value.int IntKind.i64 kind), AV.v (Value.int IntKind.i64 X), AV.v (Value.string nm)] (43 : Nat)) true) = some (Blk.mk n2 (Cont.cells [AV.v (Value.int IntKind.i64 kind), AV.v (Value.int IntKind.i64 X), AV.v (Value.string nm)] (43 : Nat)) true) ∧ n3_1 = n3_1 ∧ R (AV.tup [AV.agg [AV.v (Value.int IntKind.i64 x.1), AV.v (Value.slice x.a1 x.D.length x.c1), AV.v (Value.slice x.a2 x.U.length x.c2), AV.os (2 : Nat) b3 n3 o3 (0 : Nat) (2 : Nat) M.length c3], AV.v (Value.bool ((7 : Int) == code))]) [Blk.mk s_1.hn (Cont.res (HS × List Nat) (s_1, S') (fun (x : HS × List Nat) => x.snd) (packI histC)) true, Blk.mk (0 : Nat) (Cont.res (RH × List Nat) (x, Sx) (fun (x : RH × List Nat) => x.snd) (packI refC)) true, Blk.mk n3 (Cont.lst o3 M.length [Col.strs (atP1 M), Col.ints IntKind.i64 (atP2 M)] S3 none) true, Blk.mk n1 (Cont.cells [AV.v (Value.int IntKind.i64 x.1), AV.v (Value.slice x.a1 x.D.length x.c1), AV.v (Value.slice x.a2 x.U.length x.c2), AV.os (2 : Nat) b3 n3 o3 (0 : Nat) (2 : Nat) M.length c3] (38 : Nat)) true, Blk.mk n2 (Cont.cells [AV.v (Value.int IntKind.i64 kind), AV.v (Value.int IntKind.i64 X), AV.v (Value.string nm)] (43 : Nat)) true, Blk.mk n3_1 (Cont.cells [AV.v (Value.int IntKind.i64 x.1), AV.v (Value.slice x.a1 x.D.length x.c1), AV.v (Value.slice x.a2 x.U.length x.c2), AV.os (2 : Nat) b3 n3 o3 (0 : Nat) (2 : Nat) M.length c3] (38 : Nat)) true, Blk.mk n9 (Cont.cells [AV.v (Value.int IntKind.i64 x.1), AV.v (Value.slice x.a1 x.D.length x.c1), AV.v (Value.slice x.a2 x.U.length x.c2), AV.os (2 : Nat) b3 n3 o3 (0 : Nat) (2 : Nat) M.length c3] (38 : Nat)) true]) ∧ (List.length s_1.es < (16 : Nat) → some (Blk.mk n9 (Cont.cells [AV.v (Value.int IntKind.i64 x.1), AV.v (Value.slice x.a1 x.D.length x.c1), AV.v (Value.slice x.a2 x.U.length x.c2), AV.os (2 : Nat) b3 n3 o3 (0 : Nat) (2 : Nat) M.length c3] (38 : Nat)) true) = some (Blk.mk n9 (Cont.cells [AV.v (Value.int IntKind.i64 x.1), AV.v (Value.slice x.a1 x.D.length x.c1), AV.v (Value.slice x.a2 x.U.length x.c2), AV.os (2 : Nat) b3 n3 o3 (0 : Nat) (2 : Nat) M.length c3] (38 : Nat)) true) ∧ n3_1 = n3_1 ∧ some (Blk.mk n2 (Cont.cells [AV.v (Value.int IntKind.i64 kind), AV.v (Value.int IntKind.i64 X), AV.v (Value.string nm)] (43 : Nat)) true) = some (Blk.mk n2 (Cont.cells [AV.v (Value.int IntKind.i64 kind), AV.v (Value.int IntKind.i64 X), AV.v (Value.string nm)] (43 : Nat)) true) ∧ n3_1 = n3_1 ∧ R (AV.tup [AV.agg [AV.v (Value.int IntKind.i64 x.1), AV.v (Value.slice x.a1 x.D.length x.c1), AV.v (Value.slice x.a2 x.U.length x.c2), AV.os (2 : Nat) b3 n3 o3 (0 : Nat) (2 : Nat) M.length c3], AV.v (Value.bool ((0 : Int) == code))]) [Blk.mk (s_1.mark1 nm).hn (Cont.res (HS × List Nat) (s_1.mark1 nm, S') (fun (x : HS × List Nat) => x.snd) (packI histC)) true, Blk.mk (0 : Nat) (Cont.res (RH × List Nat) (x, Sx) (fun (x : RH × List Nat) => x.snd) (packI refC)) true, Blk.mk n3 (Cont.lst o3 M.length [Col.strs (atP1 M), Col.ints IntKind.i64 (atP2 M)] S3 none) true, Blk.mk n1 (Cont.cells [AV.v (Value.int IntKind.i64 x.1), AV.v (Value.slice x.a1 x.D.length x.c1), AV.v (Value.slice x.a2 x.U.length x.c2), AV.os (2 : Nat) b3 n3 o3 (0 : Nat) (2 : Nat) M.length c3] (38 : Nat)) true, Blk.mk n2 (Cont.cells [AV.v (Value.int IntKind.i64 kind), AV.v (Value.int IntKind.i64 X), AV.v (Value.string nm)] (43 : Nat)) true, Blk.mk n3_1 (Cont.cells [AV.v (Value.int IntKind.i64 x.1), AV.v (Value.slice x.a1 x.D.length x.c1), AV.v (Value.slice x.a2 x.U.length x.c2), AV.os (2 : Nat) b3 n3 o3 (0 : Nat) (2 : Nat) M.length c3] (38 : Nat)) true, Blk.mk n9 (Cont.cells [AV.v (Value.int IntKind.i64 x.1), AV.v (Value.slice x.a1 x.D.length x.c1), AV.v (Value.slice x.a2 x.U.length x.c2), AV.os (2 : Nat) b3 n3 o3 (0 : Nat) (2 : Nat) M.length c3] (38 : Nat)) true])))) ∧ ∀ (M' : List (ByteArray × Int)) (a : Option Addr) (n9 n10 : Nat) (S_1 : List Nat), relMk M_1 M' nm (↑x.D.length : Int) → ∀ (n13 : Nat), n13 = n13 ∧ n13 = n13 ∧ n2 = n2 ∧ ∃ (s_1 : HS), ∃ (S_2 : List Nat), s.hn = s_1.hn ∧ some (Blk.mk s.hn (Cont.res (HS × List Nat) (s, S) (fun (x : HS × List Nat) => x.snd) (packI histC)) true) = some (Blk.mk s_1.hn (Cont.res (HS × List Nat) (s_1, S_2) (fun (x : HS × List Nat) => x.snd) (packI histC)) true) ∧ s_1.ok ∧ ∀ (S' : List Nat), (nm.size = (0 : Nat) ∨ (20 : Nat) < nm.size → some (Blk.mk n13 (Cont.cells [AV.v (Value.int IntKind.i64 x.1), AV.v (Value.slice x.a1 x.D.length x.c1), AV.v (Value.slice x.a2 x.U.length x.c2), AV.os (6 : Nat) a n9 (0 : Nat) (0 : Nat) (2 : Nat) M'.length n10] (38 : Nat)) true) = some (Blk.mk n13 (Cont.cells [AV.v (Value.int IntKind.i64 x.1), AV.v (Value.slice x.a1 x.D.length x.c1), AV.v (Value.slice x.a2 x.U.length x.c2), AV.os (6 : Nat) a n9 (0 : Nat) (0 : Nat) (2 : Nat) M'.length n10] (38 : Nat)) true) ∧ n3_1 = n3_1 ∧ some (Blk.mk n2 (Cont.cells [AV.v (Value.int IntKind.i64 kind), AV.v (Value.int IntKind.i64 X), AV.v (Value.string nm)] (43 : Nat)) true) = some (Blk.mk n2 (Cont.cells [AV.v (Value.int IntKind.i64 kind), AV.v (Value.int IntKind.i64 X), AV.v (Value.string nm)] (43 : Nat)) true) ∧ n3_1 = n3_1 ∧ R (AV.tup [AV.agg [AV.v (Value.int IntKind.i64 x.1), AV.v (Value.slice x.a1 x.D.length x.c1), AV.v (Value.slice x.a2 x.U.length x.c2), AV.os (6 : Nat) a n9 (0 : Nat) (0 : Nat) (2 : Nat) M'.length n10], AV.v (Value.bool false)]) [Blk.mk s_1.hn (Cont.res (HS × List Nat) (s_1, S') (fun (x : HS × List Nat) => x.snd) (packI histC)) true, Blk.mk (0 : Nat) (Cont.res (RH × List Nat) (x, Sx) (fun (x : RH × List Nat) => x.snd) (packI refC)) true, Blk.mk n3 (Cont.lst o3 M.length [Col.strs (atP1 M), Col.ints IntKind.i64 (atP2 M)] S3 none) true, Blk.mk n1 (Cont.cells [AV.v (Value.int IntKind.i64 x.1), AV.v (Value.slice x.a1 x.D.length x.c1), AV.v (Value.slice x.a2 x.U.length x.c2), AV.os (2 : Nat) b3 n3 o3 (0 : Nat) (2 : Nat) M.length c3] (38 : Nat)) true, Blk.mk n2 (Cont.cells [AV.v (Value.int IntKind.i64 kind), AV.v (Value.int IntKind.i64 X), AV.v (Value.string nm)] (43 : Nat)) true, Blk.mk n3_1 (Cont.cells [AV.v (Value.int IntKind.i64 x.1), AV.v (Value.slice x.a1 x.D.length x.c1), AV.v (Value.slice x.a2 x.U.length x.c2), AV.os (6 : Nat) a n9 (0 : Nat) (0 : Nat) (2 : Nat) M'.length n10] (38 : Nat)) true, Blk.mk n9 (Cont.lst (0 : Nat) M'.length [Col.strs (atP1 M'), Col.ints IntKind.i64 (atP2 M')] S_1 none) true, Blk.mk n13 (Cont.cells [AV.v (Value.int IntKind.i64 x.1), AV.v (Value.slice x.a1 x.D.length x.c1), AV.v (Value.slice x.a2 x.U.length x.c2), AV.os (6 : Nat) a n9 (0 : Nat) (0 : Nat) (2 : Nat) M'.length n10] (38 : Nat)) true]) ∧ (¬(nm.size = (0 : Nat) ∨ (20 : Nat) < nm.size) → (∀ (v : Int) (n19 : Nat), ((nm, v), n19) ∈ s_1.es → some (Blk.mk n13 (Cont.cells [AV.v (Value.int IntKind.i64 x.1), AV.v (Value.slice x.a1 x.D.length x.c1), AV.v (Value.slice x.a2 x.U.length x.c2), AV.os (6 : Nat) a n9 (0 : Nat) (0 : Nat) (2 : Nat) M'.length n10] (38 : Nat)) true) = some (Blk.mk n13 (Cont.cells [AV.v (Value.int IntKind.i64 x.1), AV.v (Value.slice x.a1 x.D.length x.c1), AV.v (Value.slice x.a2 x.U.length x.c2), AV.os (6 : Nat) a n9 (0 : Nat) (0 : Nat) (2 : Nat) M'.length n10] (38 : Nat)) true) ∧ n3_1 = n3_1 ∧ some (Blk.mk n2 (Cont.cells [AV.v (Value.int IntKind.i64 kind), AV.v (Value.int IntKind.i64 X), AV.v (Value.string nm)] (43 : Nat)) true) = some (Blk.mk n2 (Cont.cells [AV.v (Value.int IntKind.i64 kind), AV.v (Value.int IntKind.i64 X), AV.v (Value.string nm)] (43 : Nat)) true) ∧ n3_1 = n3_1 ∧ R (AV.tup [AV.agg [AV.v (Value.int IntKind.i64 x.1), AV.v (Value.slice x.a1 x.D.length x.c1), AV.v (Value.slice x.a2 x.U.length x.c2), AV.os (6 : Nat) a n9 (0 : Nat) (0 : Nat) (2 : Nat) M'.length n10], AV.v (Value.bool true)]) [Blk.mk (s_1.remark nm n19).hn (Cont.res (HS × List Nat) (s_1.remark nm n19, S') (fun (x : HS × List Nat) => x.snd) (packI histC)) true, Blk.mk (0 : Nat) (Cont.res (RH × List Nat) (x, Sx) (fun (x : RH × List Nat) => x.snd) (packI refC)) true, Blk.mk n3 (Cont.lst o3 M.length [Col.strs (atP1 M), Col.ints IntKind.i64 (atP2 M)] S3 none) true, Blk.mk n1 (Cont.cells [AV.v (Value.int IntKind.i64 x.1), AV.v (Value.slice x.a1 x.D.length x.c1), AV.v (Value.slice x.a2 x.U.length x.c2), AV.os (2 : Nat) b3 n3 o3 (0 : Nat) (2 : Nat) M.length c3] (38 : Nat)) true, Blk.mk n2 (Cont.cells [AV.v (Value.int IntKind.i64 kind), AV.v (Value.int IntKind.i64 X), AV.v (Value.string nm)] (43 : Nat)) true, Blk.mk n3_1 (Cont.cells [AV.v (Value.int IntKind.i64 x.1), AV.v (Value.slice x.a1 x.D.length x.c1), AV.v (Value.slice x.a2 x.U.length x.c2), AV.os (6 : Nat) a n9 (0 : Nat) (0 : Nat) (2 : Nat) M'.length n10] (38 : Nat)) true, Blk.mk n9 (Cont.lst (0 : Nat) M'.length [Col.strs (atP1 M'), Col.ints IntKind.i64 (atP2 M')] S_1 none) true, Blk.mk n13 (Cont.cells [AV.v (Value.int IntKind.i64 x.1), AV.v (Value.slice x.a1 x.D.length x.c1), AV.v (Value.slice x.a2 x.U.length x.c2), AV.os (6 : Nat) a n9 (0 : Nat) (0 : Nat) (2 : Nat) M'.length n10] (38 : Nat)) true]) ∧ ((∀ (v : Int) (b : Nat), ¬((nm, v), b) ∈ s_1.es) → ((16 : Nat) ≤ List.length s_1.es → some (Blk.mk n13 (Cont.cells [AV.v (Value.int IntKind.i64 x.1), AV.v (Value.slice x.a1 x.D.length x.c1), AV.v (Value.slice x.a2 x.U.length x.c2), AV.os (6 : Nat) a n9 (0 : Nat) (0 : Nat) (2 : Nat) M'.length n10] (38 : Nat)) true) = some (Blk.mk n13 (Cont.cells [AV.v (Value.int IntKind.i64 x.1), AV.v (Value.slice x.a1 x.D.length x.c1), AV.v (Value.slice x.a2 x.U.length x.c2), AV.os (6 : Nat) a n9 (0 : Nat) (0 : Nat) (2 : Nat) M'.length n10] (38 : Nat)) true) ∧ n3_1 = n3_1 ∧ some (Blk.mk n2 (Cont.cells [AV.v (Value.int IntKind.i64 kind), AV.v (Value.int IntKind.i64 X), AV.v (Value.string nm)] (43 : Nat)) true) = some (Blk.mk n2 (Cont.cells [AV.v (Value.int IntKind.i64 kind), AV.v (Value.int IntKind.i64 X), AV.v (Value.string nm)] (43 : Nat)) true) ∧ n3_1 = n3_1 ∧ R (AV.tup [AV.agg [AV.v (Value.int IntKind.i64 x.1), AV.v (Value.slice x.a1 x.D.length x.c1), AV.v (Value.slice x.a2 x.U.length x.c2), AV.os (6 : Nat) a n9 (0 : Nat) (0 : Nat) (2 : Nat) M'.length n10], AV.v (Value.bool false)]) [Blk.mk s_1.hn (Cont.res (HS × List Nat) (s_1, S') (fun (x : HS × List Nat) => x.snd) (packI histC)) true, Blk.mk (0 : Nat) (Cont.res (RH × List Nat) (x, Sx) (fun (x : RH × List Nat) => x.snd) (packI refC)) true, Blk.mk n3 (Cont.lst o3 M.length [Col.strs (atP1 M), Col.ints IntKind.i64 (atP2 M)] S3 none) true, Blk.mk n1 (Cont.cells [AV.v (Value.int IntKind.i64 x.1), AV.v (Value.slice x.a1 x.D.length x.c1), AV.v (Value.slice x.a2 x.U.length x.c2), AV.os (2 : Nat) b3 n3 o3 (0 : Nat) (2 : Nat) M.length c3] (38 : Nat)) true, Blk.mk n2 (Cont.cells [AV.v (Value.int IntKind.i64 kind), AV.v (Value.int IntKind.i64 X), AV.v (Value.string nm)] (43 : Nat)) true, Blk.mk n3_1 (Cont.cells [AV.v (Value.int IntKind.i64 x.1), AV.v (Value.slice x.a1 x.D.length x.c1), AV.v (Value.slice x.a2 x.U.length x.c2), AV.os (6 : Nat) a n9 (0 : Nat) (0 : Nat) (2 : Nat) M'.length n10] (38 : Nat)) true, Blk.mk n9 (Cont.lst (0 : Nat) M'.length [Col.strs (atP1 M'), Col.ints IntKind.i64 (atP2 M')] S_1 none) true, Blk.mk n13 (Cont.cells [AV.v (Value.int IntKind.i64 x.1), AV.v (Value.slice x.a1 x.D.length x.c1), AV.v (Value.slice x.a2 x.U.length x.c2), AV.os (6 : Nat) a n9 (0 : Nat) (0 : Nat) (2 : Nat) M'.length n10] (38 : Nat)) true]) ∧ (List.length s_1.es < (16 : Nat) → some (Blk.mk n13 (Cont.cells [AV.v (Value.int IntKind.i64 x.1), AV.v (Value.slice x.a1 x.D.length x.c1), AV.v (Value.slice x.a2 x.U.length x.c2), AV.os (6 : Nat) a n9 (0 : Nat) (0 : Nat) (2 : Nat) M'.length n10] (38 : Nat)) true) = some (Blk.mk n13 (Cont.cells [AV.v (Value.int IntKind.i64 x.1), AV.v (Value.slice x.a1 x.D.length x.c1), AV.v (Value.slice x.a2 x.U.length x.c2), AV.os (6 : Nat) a n9 (0 : Nat) (0 : Nat) (2 : Nat) M'.length n10] (38 : Nat)) true) ∧ n3_1 = n3_1 ∧ some (Blk.mk n2 (Cont.cells [AV.v (Value.int IntKind.i64 kind), AV.v (Value.int IntKind.i64 X), AV.v (Value.string nm)] (43 : Nat)) true) = some (Blk.mk n2 (Cont.cells [AV.v (Value.int IntKind.i64 kind), AV.v (Value.int IntKind.i64 X), AV.v (Value.string nm)] (43 : Nat)) true) ∧ n3_1 = n3_1 ∧ R (AV.tup [AV.agg [AV.v (Value.int IntKind.i64 x.1), AV.v (Value.slice x.a1 x.D.length x.c1), AV.v (Value.slice x.a2 x.U.length x.c2), AV.os (6 : Nat) a n9 (0 : Nat) (0 : Nat) (2 : Nat) M'.length n10], AV.v (Value.bool true)]) [Blk.mk (s_1.mark1 nm).hn (Cont.res (HS × List Nat) (s_1.mark1 nm, S') (fun (x : HS × List Nat) => x.snd) (packI histC)) true, Blk.mk (0 : Nat) (Cont.res (RH × List Nat) (x, Sx) (fun (x : RH × List Nat) => x.snd) (packI refC)) true, Blk.mk n3 (Cont.lst o3 M.length [Col.strs (atP1 M), Col.ints IntKind.i64 (atP2 M)] S3 none) true, Blk.mk n1 (Cont.cells [AV.v (Value.int IntKind.i64 x.1), AV.v (Value.slice x.a1 x.D.length x.c1), AV.v (Value.slice x.a2 x.U.length x.c2), AV.os (2 : Nat) b3 n3 o3 (0 : Nat) (2 : Nat) M.length c3] (38 : Nat)) true, Blk.mk n2 (Cont.cells [AV.v (Value.int IntKind.i64 kind), AV.v (Value.int IntKind.i64 X), AV.v (Value.string nm)] (43 : Nat)) true, Blk.mk n3_1 (Cont.cells [AV.v (Value.int IntKind.i64 x.1), AV.v (Value.slice x.a1 x.D.length x.c1), AV.v (Value.slice x.a2 x.U.length x.c2), AV.os (6 : Nat) a n9 (0 : Nat) (0 : Nat) (2 : Nat) M'.length n10] (38 : Nat)) true, Blk.mk n9 (Cont.lst (0 : Nat) M'.length [Col.strs (atP1 M'), Col.ints IntKind.i64 (atP2 M')] S_1 none) true, Blk.mk n13 (Cont.cells [AV.v (Value.int IntKind.i64 x.1), AV.v (Value.slice x.a1 x.D.length x.c1), AV.v (Value.slice x.a2 x.U.length x.c2), AV.os (6 : Nat) a n9 (0 : Nat) (0 : Nat) (2 : Nat) M'.length n10] (38 : Nat)) true])))) (br (kind == (4 : Int)) (n1 = n1 ∧ n2 = n2 ∧ ∃ (x_1 : RH), ∃ (S_1 : List Nat), ∃ (M_1 : List (ByteArray × Int)), ∃ (S3_1 : List Nat), ∃ (w : Bool), some (Blk.mk (0 : Nat) (Cont.res (RH × List Nat) (x, Sx) (fun (x : RH × List Nat) => x.snd) (packI refC)) true) = some (Blk.mk (0 : Nat) (Cont.res (RH × List Nat) (x_1, S_1) (fun (x : RH × List Nat) => x.snd) (packI refC)) true) ∧ AV.agg [AV.v (Value.int IntKind.i64 x_1.1), AV.v (Value.slice x_1.a1 x_1.D.length x_1.c1), AV.v (Value.slice x_1.a2 x_1.U.length x_1.c2), AV.os (2 : Nat) b3 n3 o3 (0 : Nat) (2 : Nat) M.length c3] = AV.agg [AV.v (Value.int IntKind.i64 x.1), AV.v (Value.slice x.a1 x.D.length x.c1), AV.v (Value.slice x.a2 x.U.length x.c2), AV.os (2 : Nat) b3 n3 o3 (0 : Nat) (2 : Nat) M.length c3] ∧ some (Blk.mk n3 (Cont.lst o3 M.length [Col.strs (atP1 M), Col.ints IntKind.i64 (atP2 M)] S3 none) true) = some (Blk.mk n3 (Cont.lst o3 M_1.length [Col.strs (atP1 M_1), Col.ints IntKind.i64 (atP2 M_1)] S3_1 none) w) ∧ M.length = M_1.length ∧ (1 : Nat) ≠ (2 : Nat) ∧ (M_1.length ≤ (1048576 : Nat) ∧ x_1.D.length + x_1.U.length ≤ (1048576 : Nat) ∧ inM M_1 x_1) ∧ ∀ (x' : RH) (mv : List Int) (code : Int) (S' : List Nat) (a : Option Addr) (n14 n15 : Nat) (S4 : List Nat), relTo M_1 nm x_1 x' mv code → ∀ (n18 : Nat), n18 = n18 ∧ n2 = n2 ∧ ∃ (s_1 : HS), ∃ (S_2 : List Nat), s.hn = s_1.hn ∧ some (Blk.mk s.hn (Cont.res (HS × List Nat) (s, S) (fun (x : HS × List Nat) => x.snd) (packI histC)) true) = some (Blk.mk s_1.hn (Cont.res (HS × List Nat) (s_1, S_2) (fun (x : HS × List Nat) => x.snd) (packI histC)) true) ∧ s_1.ok ∧ ∀ (s' : HS) (mv_1 : List Int) (code_1 : Int) (S'_1 : List Nat) (a : Option Addr) (n26 n27 : Nat) (S1 : List Nat), relO s_1 s' nm mv_1 code_1 → n18 = n18 ∧ ∃ (l : List Int), ∃ (m : List Int), ∃ (S1_1 : List Nat), ∃ (S2 : List Nat), ∃ (w1 : Bool), ∃ (w2 : Bool), some (Blk.mk n14 (Cont.lst (0 : Nat) mv.length [Col.ints IntKind.i64 (atI mv)] S4 none) true) = some (Blk.mk n14 (Cont.lst (0 : Nat) l.length [Col.ints IntKind.i64 (atI l)] S1_1 none) w1) ∧ some (Blk.mk n26 (Cont.lst (0 : Nat) mv_1.length [Col.ints IntKind.i64 (atI mv_1)] S1 none) true) = some (Blk.mk n26 (Cont.lst (0 : Nat) m.length [Col.ints IntKind.i64 (atI m)] S2 none) w2) ∧ mv.length = l.length ∧ mv_1.length = m.length ∧ List.Pairwise (fun (x1 x2 : Nat) => x1 ≠ x2) [(6 : Nat), (8 : Nat)] ∧ l.length ≤ (1048576 : Nat) ∧ some (Blk.mk n18 (Cont.cells [AV.v (Value.int IntKind.i64 x'.1), AV.v (Value.slice x'.a1 x'.D.length x'.c1), AV.v (Value.slice x'.a2 x'.U.length x'.c2), AV.os (2 : Nat) b3 n3 o3 (0 : Nat) (2 : Nat) M.length c3] (38 : Nat)) true) = some (Blk.mk n18 (Cont.cells [AV.v (Value.int IntKind.i64 x'.1), AV.v (Value.slice x'.a1 x'.D.length x'.c1), AV.v (Value.slice x'.a2 x'.U.length x'.c2), AV.os (2 : Nat) b3 n3 o3 (0 : Nat) (2 : Nat) M.length c3] (38 : Nat)) true) ∧ br (decide (l = m)) (n3_1 = n3_1 ∧ n3_1 = n3_1 ∧ R (AV.tup [AV.agg [AV.v (Value.int IntKind.i64 x'.1), AV.v (Value.slice x'.a1 x'.D.length x'.c1), AV.v (Value.slice x'.a2 x'.U.length x'.c2), AV.os (2 : Nat) b3 n3 o3 (0 : Nat) (2 : Nat) M.length c3], AV.v (Value.bool (code_1 == code))]) [Blk.mk s'.hn (Cont.res (HS × List Nat) (s', S'_1) (fun (x : HS × List Nat) => x.snd) (packI histC)) true, Blk.mk (0 : Nat) (Cont.res (RH × List Nat) (x', S') (fun (x : RH × List Nat) => x.snd) (packI refC)) true, Blk.mk n3 (Cont.lst o3 M.length [Col.strs (atP1 M), Col.ints IntKind.i64 (atP2 M)] S3 none) true, Blk.mk n1 (Cont.cells [AV.v (Value.int IntKind.i64 x.1), AV.v (Value.slice x.a1 x.D.length x.c1), AV.v (Value.slice x.a2 x.U.length x.c2), AV.os (2 : Nat) b3 n3 o3 (0 : Nat) (2 : Nat) M.length c3] (38 : Nat)) true, Blk.mk n2 (Cont.cells [AV.v (Value.int IntKind.i64 kind), AV.v (Value.int IntKind.i64 X), AV.v (Value.string nm)] (43 : Nat)) true, Blk.mk n3_1 (Cont.cells [AV.v (Value.int IntKind.i64 x'.1), AV.v (Value.slice x'.a1 x'.D.length x'.c1), AV.v (Value.slice x'.a2 x'.U.length x'.c2), AV.os (2 : Nat) b3 n3 o3 (0 : Nat) (2 : Nat) M.length c3] (38 : Nat)) true, Blk.mk n14 (Cont.lst (0 : Nat) mv.length [Col.ints IntKind.i64 (atI mv)] S4 none) true, Blk.mk n18 (Cont.cells [AV.v (Value.int IntKind.i64 x'.1), AV.v (Value.slice x'.a1 x'.D.length x'.c1), AV.v (Value.slice x'.a2 x'.U.length x'.c2), AV.os (2 : Nat) b3 n3 o3 (0 : Nat) (2 : Nat) M.length c3] (38 : Nat)) true, Blk.mk n26 (Cont.lst (0 : Nat) mv_1.length [Col.ints IntKind.i64 (atI mv_1)] S1 none) true]) (n3_1 = n3_1 ∧ n3_1 = n3_1 ∧ R (AV.tup [AV.agg [AV.v (Value.int IntKind.i64 x'.1), AV.v (Value.slice x'.a1 x'.D.length x'.c1), AV.v (Value.slice x'.a2 x'.U.length x'.c2), AV.os (2 : Nat) b3 n3 o3 (0 : Nat) (2 : Nat) M.length c3], AV.v (Value.bool false)]) [Blk.mk s'.hn (Cont.res (HS × List Nat) (s', S'_1) (fun (x : HS × List Nat) => x.snd) (packI histC)) true, Blk.mk (0 : Nat) (Cont.res (RH × List Nat) (x', S') (fun (x : RH × List Nat) => x.snd) (packI refC)) true, Blk.mk n3 (Cont.lst o3 M.length [Col.strs (atP1 M), Col.ints IntKind.i64 (atP2 M)] S3 none) true, Blk.mk n1 (Cont.cells [AV.v (Value.int IntKind.i64 x.1), AV.v (Value.slice x.a1 x.D.length x.c1), AV.v (Value.slice x.a2 x.U.length x.c2), AV.os (2 : Nat) b3 n3 o3 (0 : Nat) (2 : Nat) M.length c3] (38 : Nat)) true, Blk.mk n2 (Cont.cells [AV.v (Value.int IntKind.i64 kind), AV.v (Value.int IntKind.i64 X), AV.v (Value.string nm)] (43 : Nat)) true, Blk.mk n3_1 (Cont.cells [AV.v (Value.int IntKind.i64 x'.1), AV.v (Value.slice x'.a1 x'.D.length x'.c1), AV.v (Value.slice x'.a2 x'.U.length x'.c2), AV.os (2 : Nat) b3 n3 o3 (0 : Nat) (2 : Nat) M.length c3] (38 : Nat)) true, Blk.mk n14 (Cont.lst (0 : Nat) mv.length [Col.ints IntKind.i64 (atI mv)] S4 none) true, Blk.mk n18 (Cont.cells [AV.v (Value.int IntKind.i64 x'.1), AV.v (Value.slice x'.a1 x'.D.length x'.c1), AV.v (Value.slice x'.a2 x'.U.length x'.c2), AV.os (2 : Nat) b3 n3 o3 (0 : Nat) (2 : Nat) M.length c3] (38 : Nat)) true, Blk.mk n26 (Cont.lst (0 : Nat) mv_1.length [Col.ints IntKind.i64 (atI mv_1)] S1 none) true])) (n1 = n1 ∧ n2 = n2 ∧ n2 = n2 ∧ ∃ (x_1 : RH), ∃ (S_1 : List Nat), ∃ (M_1 : List (ByteArray × Int)), ∃ (S3_1 : List Nat), ∃ (w : Bool), some (Blk.mk (0 : Nat) (Cont.res (RH × List Nat) (x, Sx) (fun (x : RH × List Nat) => x.snd) (packI refC)) true) = some (Blk.mk (0 : Nat) (Cont.res (RH × List Nat) (x_1, S_1) (fun (x : RH × List Nat) => x.snd) (packI refC)) true) ∧ AV.agg [AV.v (Value.int IntKind.i64 x_1.1), AV.v (Value.slice x_1.a1 x_1.D.length x_1.c1), AV.v (Value.slice x_1.a2 x_1.U.length x_1.c2), AV.os (2 : Nat) b3 n3 o3 (0 : Nat) (2 : Nat) M.length c3] = AV.agg [AV.v (Value.int IntKind.i64 x.1), AV.v (Value.slice x.a1 x.D.length x.c1), AV.v (Value.slice x.a2 x.U.length x.c2), AV.os (2 : Nat) b3 n3 o3 (0 : Nat) (2 : Nat) M.length c3] ∧ some (Blk.mk n3 (Cont.lst o3 M.length [Col.strs (atP1 M), Col.ints IntKind.i64 (atP2 M)] S3 none) true) = some (Blk.mk n3 (Cont.lst o3 M_1.length [Col.strs (atP1 M_1), Col.ints IntKind.i64 (atP2 M_1)] S3_1 none) w) ∧ M.length = M_1.length ∧ (1 : Nat) ≠ (2 : Nat) ∧ (M_1.length ≤ (1048576 : Nat) ∧ x_1.D.length + x_1.U.length ≤ (1048576 : Nat) ∧ inM M_1 x_1 ∧ (0 : Int) ≤ x_1.1 ∧ x_1.1 ≤ (256 : Int)) ∧ ∀ (x' : RH) (n10 : Nat) (S' : List Nat) (a : Option Addr) (n13 n14 : Nat) (S4 : List Nat), relP x_1 x' X n10 → some (Blk.mk n2 (Cont.cells [AV.v (Value.int IntKind.i64 kind), AV.v (Value.int IntKind.i64 X), AV.v (Value.string nm)] (43 : Nat)) true) = some (Blk.mk n2 (Cont.cells [AV.v (Value.int IntKind.i64 kind), AV.v (Value.int IntKind.i64 X), AV.v (Value.string nm)] (43 : Nat)) true) ∧ ∃ (s_1 : HS), ∃ (S_2 : List Nat), s.hn = s_1.hn ∧ some (Blk.mk s.hn (Cont.res (HS × List Nat) (s, S) (fun (x : HS × List Nat) => x.snd) (packI histC)) true) = some (Blk.mk s_1.hn (Cont.res (HS × List Nat) (s_1, S_2) (fun (x : HS × List Nat) => x.snd) (packI histC)) true) ∧ s_1.ok ∧ ∀ (S'_1 : List Nat), some (Blk.mk n2 (Cont.cells [AV.v (Value.int IntKind.i64 kind), AV.v (Value.int IntKind.i64 X), AV.v (Value.string nm)] (43 : Nat)) true) = some (Blk.mk n2 (Cont.cells [AV.v (Value.int IntKind.i64 kind), AV.v (Value.int IntKind.i64 X), AV.v (Value.string nm)] (43 : Nat)) true) ∧ some (Blk.mk n1 (Cont.cells [AV.v (Value.int IntKind.i64 x.1), AV.v (Value.slice x.a1 x.D.length x.c1), AV.v (Value.slice x.a2 x.U.length x.c2), AV.os (2 : Nat) b3 n3 o3 (0 : Nat) (2 : Nat) M.length c3] (38 : Nat)) true) = some (Blk.mk n1 (Cont.cells [AV.v (Value.int IntKind.i64 x.1), AV.v (Value.slice x.a1 x.D.length x.c1), AV.v (Value.slice x.a2 x.U.length x.c2), AV.os (2 : Nat) b3 n3 o3 (0 : Nat) (2 : Nat) M.length c3] (38 : Nat)) true) ∧ n3_1 = n3_1 ∧ some (Blk.mk n2 (Cont.cells [AV.v (Value.int IntKind.i64 kind), AV.v (Value.int IntKind.i64 X), AV.v (Value.string nm)] (43 : Nat)) true) = some (Blk.mk n2 (Cont.cells [AV.v (Value.int IntKind.i64 kind), AV.v (Value.int IntKind.i64 X), AV.v (Value.string nm)] (43 : Nat)) true) ∧ n3_1 = n3_1 ∧ R (AV.tup [AV.agg [AV.v (Value.int IntKind.i64 x'.1), AV.v (Value.slice x'.a1 x'.D.length x'.c1), AV.v (Value.slice x'.a2 x'.U.length x'.c2), AV.os (6 : Nat) a n13 (0 : Nat) (0 : Nat) (2 : Nat) (stayL M_1 (↑x_1.D.length : Int) (↑n10 : Int)).length n14], AV.v (Value.bool true)]) [Blk.mk (s_1.push X).hn (Cont.res (HS × List Nat) (s_1.push X, S'_1) (fun (x : HS × List Nat) => x.snd) (packI histC)) true, Blk.mk (0 : Nat) (Cont.res (RH × List Nat) (x', S') (fun (x : RH × List Nat) => x.snd) (packI refC)) true, Blk.mk n3 (Cont.lst o3 M.length [Col.strs (atP1 M), Col.ints IntKind.i64 (atP2 M)] S3 none) true, Blk.mk n1 (Cont.cells [AV.v (Value.int IntKind.i64 x.1), AV.v (Value.slice x.a1 x.D.length x.c1), AV.v (Value.slice x.a2 x.U.length x.c2), AV.os (2 : Nat) b3 n3 o3 (0 : Nat) (2 : Nat) M.length c3] (38 : Nat)) true, Blk.mk n2 (Cont.cells [AV.v (Value.int IntKind.i64 kind), AV.v (Value.int IntKind.i64 X), AV.v (Value.string nm)] (43 : Nat)) true, Blk.mk n3_1 (Cont.cells [AV.v (Value.int IntKind.i64 x'.1), AV.v (Value.slice x'.a1 x'.D.length x'.c1), AV.v (Value.slice x'.a2 x'.U.length x'.c2), AV.os (6 : Nat) a n13 (0 : Nat) (0 : Nat) (2 : Nat) (stayL M_1 (↑x_1.D.length : Int) (↑n10 : Int)).length n14] (38 : Nat)) true, Blk.mk n13 (Cont.lst (0 : Nat) (stayL M_1 (↑x_1.D.length : Int) (↑n10 : Int)).length [Col.strs (atP1 (stayL M_1 (↑x_1.D.length : Int) (↑n10 : Int))), Col.ints IntKind.i64 (atP2 (stayL M_1 (↑x_1.D.length : Int) (↑n10 : Int)))] S4 none) true])))))) : LC Try.prog 19 [.ptr 0 s.hn 0, x.v (.os 2 b3 n3 o3 0 2 M.length c3), .agg [.v (.int .i64 kind), .v (.int .i64 X), .v (.string nm)]] [hH s S, refB x Sx, rM n3 o3 M S3] R :=
  lc_of_exec (tbl := tbSt) tab_ok tbSt_ok mixed noinv 2 _ Try.func19 rfl Try.ntmps19 (by decide) (by kernel_rfl) (Nat.le_of_ble_eq_true rfl) (@Eq.mpr (execN tab tbSt noinv 2 Try.f19.ntmps [] none 0 (body Try.f19) (argsT [.ptr 0 s.hn 0, x.v (.os 2 b3 n3 o3 0 2 M.length c3), .agg [.v (.int .i64 kind), .v (.int .i64 X), .v (.string nm)]] 0) [hH s S, refB x Sx, rM n3 o3 M S3] (post Try.f19 tab (retK R))) _ (by kernel_rfl) h)


end Go.Proofs.Ytkjnkepdhbpnbaa

namespace Go.Eng
open Go Go.Sp

/-- A history, and its plain form. -/
structure Jn (s : HS) (x : RH) (M : List (ByteArray × Int)) : Prop where
  ok : s.ok
  few : s.es.length ≤ 16
  nm : ∀ a b, (a, b) ∈ s.es → a.1.size ≤ 20
  most : x.most = s.most
  D : x.D = s.doneL
  U : x.U = s.undoneL
  M : M.Perm (s.es.map (·.1))

def HS.full (s : HS) : List Int := (List.range s.len).map s.g

theorem HS.full_len (s : HS) : s.full.length = s.len := by simp [HS.full]
theorem HS.full_get (s : HS) {i : Nat} (h : i < s.len) : s.full[i]? = some (s.g i) := by simp [HS.full, h]
theorem HS.doneL_full {s : HS} (h : s.at_ ≤ s.len) : s.doneL = s.full.take s.at_ := by
  unfold HS.doneL HS.full
  rw [← List.map_take, List.take_range, Nat.min_eq_left h]
theorem HS.undoneL_full {s : HS} (h : s.at_ ≤ s.len) : s.undoneL = s.full.drop s.at_ := by
  apply List.ext_getElem?
  intro i
  rw [List.getElem?_drop]
  unfold HS.undoneL HS.full
  by_cases hi : i < s.len - s.at_
  · simp [hi, show s.at_ + i < s.len by omega]
  · rw [List.getElem?_eq_none (by simp; omega), List.getElem?_eq_none (by simp; omega)]

theorem Jn.cat {s : HS} {x : RH} {M : List (ByteArray × Int)} (j : Jn s x M) : x.D ++ x.U = s.full ∧ x.D.length = s.at_ := by
  have h := j.ok.le
  refine ⟨by rw [j.D, j.U, HS.doneL_full h, HS.undoneL_full h, List.take_append_drop], by rw [j.D, HS.doneL_len]⟩

/-- Another place in the same things. -/
theorem Jn.go {s : HS} {x x' : RH} {M : List (ByteArray × Int)} (j : Jn s x M) (hm : x'.most = x.most) (hc : x'.D ++ x'.U = x.D ++ x.U) {p : Nat} (hp : p ≤ s.len) (hl : x'.D.length = p) : Jn (s.goTo p) x' M := by
  have e := hc.trans j.cat.1
  have f : (s.goTo p).full = s.full := rfl
  refine ⟨HS.goTo_ok j.ok hp, j.few, j.nm, hm.trans j.most, ?_, ?_, j.M⟩
  · rw [HS.doneL_full (s := s.goTo p) hp, f, ← e]
    show x'.D = (x'.D ++ x'.U).take p
    rw [← hl, List.take_left]
  · rw [HS.undoneL_full (s := s.goTo p) hp, f, ← e]
    show x'.U = (x'.D ++ x'.U).drop p
    rw [← hl, List.drop_left]

theorem Jn.back {s : HS} {x x' : RH} {M : List (ByteArray × Int)} {y code : Int} (j : Jn s x M) (h : relB x x' y code) : (s.at_ = 0 → y = 0 ∧ code = 12 ∧ Jn s x' M) ∧ (0 < s.at_ → y = s.g (s.at_ - 1) ∧ code = 0 ∧ Jn s.back x' M) := by
  obtain ⟨h0, h⟩ := h
  have hl := j.cat.2
  refine ⟨fun e => ?_, fun e => ?_⟩
  · rcases h with ⟨h1, h2, h3, h4, h5⟩ | ⟨h1, _⟩
    · refine ⟨h4, h5, ⟨j.ok, j.few, j.nm, h0.trans j.most, ?_, h3.trans j.U, j.M⟩⟩
      rw [h2, ← h1]; exact j.D
    · rw [h1] at hl; simp at hl; omega
  · rcases h with ⟨h1, _⟩ | ⟨h1, h2, h3⟩
    · rw [h1] at hl; simp at hl; omega
    · have hd : x'.D.length = s.at_ - 1 := by rw [h1] at hl; simp at hl; omega
      have hj := j.go (x' := x') h0 (by rw [h1, h2]; simp) (p := s.at_ - 1) (by have := j.ok.le; omega) hd
      refine ⟨?_, h3, hj⟩
      have g := s.full_get (i := s.at_ - 1) (by have := j.ok.le; omega)
      rw [← j.cat.1, h1, List.append_assoc, List.getElem?_append_right (by omega), hd] at g
      simpa using g

theorem Jn.again {s : HS} {x x' : RH} {M : List (ByteArray × Int)} {y code : Int} (j : Jn s x M) (h : relA x x' y code) : (s.at_ = s.len → y = 0 ∧ code = 12 ∧ Jn s x' M) ∧ (s.at_ < s.len → y = s.g s.at_ ∧ code = 0 ∧ Jn s.again x' M) := by
  obtain ⟨h0, h⟩ := h
  have hl := j.cat.2
  have hu : x.U.length = s.len - s.at_ := by rw [j.U, HS.undoneL_len]
  refine ⟨fun e => ?_, fun e => ?_⟩
  · rcases h with ⟨h1, h2, h3, h4, h5⟩ | ⟨h1, _⟩
    · refine ⟨h4, h5, ⟨j.ok, j.few, j.nm, h0.trans j.most, h3.trans j.D, ?_, j.M⟩⟩
      rw [h2, ← h1]; exact j.U
    · rw [h1] at hu; simp at hu; omega
  · rcases h with ⟨h1, _⟩ | ⟨h1, h2, h3⟩
    · rw [h1] at hu; simp at hu; omega
    · have hd : x'.D.length = s.at_ + 1 := by rw [h2]; simp [hl]
      have hj := j.go (x' := x') h0 (by rw [h1, h2]; simp) (p := s.at_ + 1) (by omega) hd
      refine ⟨?_, h3, hj⟩
      have g := s.full_get (i := s.at_) e
      rw [← j.cat.1, h1, List.getElem?_append_right (by omega), hl] at g
      simpa using g

theorem stayL_kf (f t : Int) : ∀ es : MK, stayL (es.map (·.1)) t f = (kfA f t es).map (·.1)
  | [] => rfl
  | e :: es => by
    have ih := stayL_kf f t es
    unfold stayL kfA at ih ⊢
    simp only [List.map_cons, List.filter_cons, List.filterMap_cons]
    by_cases h : f ≤ e.1.2 ∧ e.1.2 ≤ t
    · simp [h.1, h.2, ih]
    · by_cases h1 : e.1.2 ≤ t
      · have h2 : ¬ f ≤ e.1.2 := fun h2 => h ⟨h2, h1⟩
        simp [h2, ih]
      · simp [h1, ih]

theorem stayL_perm {M M' : List (ByteArray × Int)} (h : M.Perm M') (t l : Int) : (stayL M t l).Perm (stayL M' t l) := (h.filter _).map _

theorem Jn.push {s : HS} {x x' : RH} {M : List (ByteArray × Int)} {v : Int} {low : Nat} (j : Jn s x M) (h : relP x x' v low) : Jn (s.push v) x' (stayL M (x.D.length : Int) (low : Int)) := by
  obtain ⟨h0, h1, h2, h3⟩ := h
  have hl := j.cat.2
  have m0 := j.ok.m0
  have hg : low = s.gone := by rw [hl, j.most] at h1; unfold HS.gone; omega
  have hle := j.ok.le
  refine ⟨HS.push_ok j.ok v, Nat.le_trans (kfA_len _ _ _) j.few, fun a b hab => ?_, h0.trans j.most, ?_, ?_, ?_⟩
  · obtain ⟨v', h, _⟩ := kfA_mem hab
    exact j.nm (a.1, v') b h
  · rw [h2, hg]
    apply List.ext_getElem?
    intro i
    rw [List.getElem?_drop]
    unfold HS.doneL
    show (x.D ++ [v])[s.gone + i]? = ((List.range (s.at_ + 1 - s.gone)).map (fun k => if s.gone + k < s.at_ then s.g (s.gone + k) else v))[i]?
    by_cases hi : i < s.at_ + 1 - s.gone
    · rw [List.getElem?_map, List.getElem?_range hi]
      simp only [Option.map_some]
      by_cases h4 : s.gone + i < s.at_
      · rw [if_pos h4, List.getElem?_append_left (by omega), j.D, HS.doneL]
        simp [h4]
      · rw [if_neg h4, List.getElem?_append_right (by omega), show s.gone + i - x.D.length = 0 by omega]
        rfl
    · rw [List.getElem?_eq_none (by simp; omega), List.getElem?_eq_none (by simp; omega)]
  · rw [h3]
    unfold HS.undoneL
    show [] = (List.range ((s.at_ + 1 - s.gone) - (s.at_ + 1 - s.gone))).map _
    rw [Nat.sub_self]; rfl
  · rw [hg, hl]
    refine (stayL_perm j.M _ _).trans ?_
    rw [stayL_kf]
    exact List.Perm.refl _

theorem exI_none (M : List (ByteArray × Int)) : ∀ n, n ≤ M.length → exI M (-1) n = M.take n
  | 0, _ => by simp [exI]
  | n + 1, h => by
    have hn : n < M.length := h
    rw [exI, exI_none M n (by omega), if_neg (by omega), List.take_succ_eq_append_getElem hn]
    congr 1
    simp [atP1, atP2, hn]

theorem exI_perm (M : List (ByteArray × Int)) (k : Nat) : ∀ n, n ≤ M.length → (k < n → ((atP1 M k, atP2 M k) :: exI M (k : Int) n).Perm (M.take n)) ∧ (n ≤ k → exI M (k : Int) n = M.take n)
  | 0, _ => ⟨fun h => absurd h (Nat.not_lt_zero _), fun _ => by simp [exI]⟩
  | n + 1, h => by
    have hn : n < M.length := h
    obtain ⟨i1, i2⟩ := exI_perm M k n (by omega)
    have e : M.take (n + 1) = M.take n ++ [(atP1 M n, atP2 M n)] := by
      rw [List.take_succ_eq_append_getElem hn]
      congr 1
      simp [atP1, atP2, hn]
    refine ⟨fun hk => ?_, fun hk => ?_⟩
    · rw [exI, e]
      by_cases hkn : n = k
      · subst hkn
        rw [if_pos rfl, i2 (Nat.le_refl _), List.append_nil]
        exact (List.perm_append_singleton _ _).symm
      · rw [if_neg (by omega), ← List.cons_append]
        exact (i1 (by omega)).append_right _
    · rw [exI, e, if_neg (by omega), i2 (by omega)]

theorem nth_marks {M : List (ByteArray × Int)} {k : Nat} (h : k < M.length) : (atP1 M k, atP2 M k) ∈ M := by
  have : (atP1 M k, atP2 M k) = M[k] := by simp [atP1, atP2, h]
  rw [this]; exact List.getElem_mem h

/-- A mark of a name among the plain form's is one among the history's. -/
theorem Jn.has {s : HS} {x : RH} {M : List (ByteArray × Int)} (j : Jn s x M) {a : ByteArray × Int} : a ∈ M ↔ ∃ b, (a, b) ∈ s.es := by
  rw [j.M.mem_iff, List.mem_map]
  exact ⟨fun ⟨e, he, h⟩ => ⟨e.2, by rw [← h]; exact he⟩, fun ⟨b, h⟩ => ⟨(a, b), h, rfl⟩⟩

theorem Jn.none {s : HS} {x : RH} {M : List (ByteArray × Int)} (j : Jn s x M) {nm : ByteArray} : (∀ q, q < M.length → atP1 M q ≠ nm) ↔ ∀ (v : Int) (b : Nat), ((nm, v), b) ∉ s.es := by
  constructor
  · intro h v b hb
    obtain ⟨q, hq, he⟩ := List.mem_iff_getElem.1 (j.has.2 ⟨b, hb⟩)
    exact h q hq (by simp [atP1, hq, he])
  · intro h q hq e
    obtain ⟨b, hb⟩ := j.has.1 (nth_marks hq)
    rw [e] at hb
    exact h _ _ hb

/-- A name stands at one place alone. -/
theorem Jn.one {s : HS} {x : RH} {M : List (ByteArray × Int)} (j : Jn s x M) {nm : ByteArray} {v v' : Int} {b b' : Nat} (h : ((nm, v), b) ∈ s.es) (h' : ((nm, v'), b') ∈ s.es) : b = b' ∧ v = v' := by
  have e := j.ok.keys.key _ _ _ _ h h' rfl
  subst e
  have := born_one j.ok.keys.born h h'
  exact ⟨rfl, (Prod.mk.inj this).2⟩

theorem Jn.mark_bad {s : HS} {x : RH} {M : List (ByteArray × Int)} (j : Jn s x M) {nm : ByteArray} {code : Int} (h : badMk M nm code) : ((nm.size = 0 ∨ 20 < nm.size) ∧ code = 2) ∨ (¬ (nm.size = 0 ∨ 20 < nm.size) ∧ (∀ (v : Int) (b : Nat), ((nm, v), b) ∉ s.es) ∧ 16 ≤ s.es.length ∧ code = 7) := by
  rcases h with h | ⟨h1, h2, h3, h4⟩
  · exact .inl h
  · exact .inr ⟨h1, j.none.1 h2, by have := j.M.length_eq; rw [List.length_map] at this; omega, h4⟩

theorem Jn.mark {s : HS} {x : RH} {M M' : List (ByteArray × Int)} {nm : ByteArray} (j : Jn s x M) (h : relMk M M' nm (s.at_ : Int)) :
    ¬ (nm.size = 0 ∨ 20 < nm.size) ∧ (((∀ (v : Int) (b : Nat), ((nm, v), b) ∉ s.es) ∧ s.es.length < 16 ∧ Jn (s.mark1 nm) x M') ∨ (∃ (v : Int) (b : Nat), ((nm, v), b) ∈ s.es ∧ ∀ (v' : Int) (b' : Nat), ((nm, v'), b') ∈ s.es → Jn (s.remark nm b') x M')) := by
  obtain ⟨h1, r, hr, h2, rfl⟩ := h
  have ml : M.length = s.es.length := by rw [j.M.length_eq, List.length_map]
  refine ⟨h1, ?_⟩
  rcases hr with ⟨rfl, hn⟩ | ⟨k, rfl, hk, hnm⟩
  · left
    have hn' := j.none.1 hn
    have hf : s.es.length < 16 := by rcases h2 with h2 | h2 <;> omega
    refine ⟨hn', hf, HS.mark1_ok j.ok hn', ?_, fun a b hab => ?_, j.most, j.D, j.U, ?_⟩
    · show (s.es ++ [_]).length ≤ 16
      rw [List.length_append]; show s.es.length + 1 ≤ 16; omega
    · rcases List.mem_append.1 (show (a, b) ∈ s.es ++ [_] from hab) with h | h
      · exact j.nm _ _ h
      · cases List.mem_singleton.1 h
        show nm.size ≤ 20
        omega
    · rw [exI_none M _ (Nat.le_refl _), List.take_length]
      show (M ++ [(nm, (s.at_ : Int))]).Perm ((s.es ++ [((nm, (s.at_ : Int)), s.clock)]).map (·.1))
      rw [List.map_append]
      exact j.M.append_right _
  · right
    obtain ⟨b, hb⟩ := j.has.1 (nth_marks hk)
    rw [hnm] at hb
    refine ⟨_, b, hb, fun v' b' hb' => ?_⟩
    obtain ⟨rfl, rfl⟩ := j.one hb hb'
    refine ⟨HS.remark_ok j.ok hb, ?_, fun a c hac => ?_, j.most, j.D, j.U, ?_⟩
    · show (setE s.es b _).length ≤ 16
      unfold setE; rw [List.length_map]; exact j.few
    · obtain ⟨e, he, h2⟩ := List.mem_map.1 (show (a, c) ∈ List.map _ _ from hac)
      split at h2
      · cases h2; show nm.size ≤ 20; omega
      · subst h2; exact j.nm _ _ he
    · have p1 := (exI_perm M k _ (Nat.le_refl _)).1 hk
      rw [List.take_length, hnm] at p1
      obtain ⟨e1, e2, he⟩ := List.append_of_mem hb
      have hnd := j.ok.keys.born
      have hset : setE s.es b (nm, (s.at_ : Int)) = e1 ++ ((nm, (s.at_ : Int)), b) :: e2 := by
        rw [he] at hnd ⊢
        rw [List.map_append, List.map_cons, List.nodup_append] at hnd
        have hn2 := List.nodup_cons.1 hnd.2.1
        unfold setE
        rw [List.map_append, List.map_cons]
        have i1 : e1.map (fun e => if e.2 = b then ((nm, (s.at_ : Int)), b) else e) = e1 := by
          conv => rhs; rw [← List.map_id e1]
          exact List.map_congr_left fun e hm => by rw [if_neg (fun hb => hnd.2.2 e.2 (List.mem_map.2 ⟨e, hm, rfl⟩) b (List.mem_cons_self ..) hb)]; rfl
        have i2 : e2.map (fun e => if e.2 = b then ((nm, (s.at_ : Int)), b) else e) = e2 := by
          conv => rhs; rw [← List.map_id e2]
          exact List.map_congr_left fun e hm => by rw [if_neg (fun hb => hn2.1 (List.mem_map.2 ⟨e, hm, hb⟩))]; rfl
        rw [i1, i2, if_pos rfl]
      show (exI M (k : Int) M.length ++ [(nm, (s.at_ : Int))]).Perm ((setE s.es b (nm, (s.at_ : Int))).map (·.1))
      rw [hset, List.map_append, List.map_cons]
      have p2 : ((nm, atP2 M k) :: exI M (k : Int) M.length).Perm ((nm, atP2 M k) :: (e1.map (·.1) ++ e2.map (·.1))) := by
        refine p1.trans (j.M.trans ?_)
        rw [he, List.map_append, List.map_cons]
        exact List.perm_middle
      have p3 := (List.perm_cons _).1 p2
      refine (List.perm_append_singleton _ _).trans ?_
      refine ((List.perm_cons _).2 p3).trans ?_
      exact List.perm_middle.symm

theorem Jn.to {s s' : HS} {x x' : RH} {M : List (ByteArray × Int)} {nm : ByteArray} {mv mv' : List Int} {code code' : Int} (j : Jn s x M) (h : relTo M nm x x' mv code) (h' : relO s s' nm mv' code') : code' = code ∧ mv' = mv ∧ Jn s' x' M := by
  have hl := j.cat.2
  have hu : x.U.length = s.len - s.at_ := by rw [j.U, HS.undoneL_len]
  have hle := j.ok.le
  rcases h with ⟨h1, rfl, rfl, rfl⟩ | ⟨k, hk, hnm, ⟨hm, ht⟩, rfl⟩
  · rcases h' with ⟨_, rfl, rfl, rfl⟩ | ⟨v, b, hb, _⟩
    · exact ⟨rfl, rfl, j⟩
    · exact absurd hb (j.none.1 h1 _ _)
  · obtain ⟨b, hb⟩ := j.has.1 (nth_marks hk)
    rw [hnm] at hb
    rcases h' with ⟨h2, _⟩ | ⟨v, b', hb', hv, rfl, rfl, ho⟩
    · exact absurd hb (h2 _ _)
    · obtain ⟨_, e⟩ := j.one hb hb'
      have fg : ∀ {i : Nat}, i < s.len → (x.D ++ x.U)[i]? = some (s.g i) := fun {i} h => by rw [j.cat.1]; exact s.full_get h
      rcases ht with ⟨t1, t2, t3⟩ | ⟨t1, t2, t3⟩
      · have hd : x'.D.length = v := by omega
        have ml : mv.length = s.at_ - v := by have := congrArg List.length t1; simp at this; omega
        have hva : v ≤ s.at_ := by have := congrArg List.length t1; simp at this; omega
        refine ⟨rfl, ?_, j.go hm (by rw [t1, t2]; simp) hv hd⟩
        refine listI_eq ?_ fun i hi => ?_
        · rcases ho with ⟨_, o, _⟩ | ⟨o1, o, _⟩ <;> omega
        · have il : i < s.at_ - v := by rcases ho with ⟨_, o, _⟩ | ⟨o1, o, _⟩ <;> omega
          rcases ho with ⟨_, o, o2⟩ | ⟨o1, _⟩
          · rw [o2 i il, atI_get (by omega)]
            have g := fg (i := s.at_ - 1 - i) (by omega)
            rw [List.getElem?_append_left (by omega), t1, List.getElem?_append_right (by omega), List.getElem?_reverse (by omega), hd, List.getElem?_eq_getElem (by omega)] at g
            have e3 : mv.length - 1 - (s.at_ - 1 - i - v) = i := by omega
            simp only [e3, Option.some.injEq] at g
            exact g.symm
          · omega
      · have hd : x'.D.length = v := by omega
        have hxl := congrArg List.length t1
        have hul := congrArg List.length t2
        simp only [List.length_append] at hxl hul
        refine ⟨rfl, ?_, j.go hm (by rw [t1, t2]; simp) hv hd⟩
        refine listI_eq ?_ fun i hi => ?_
        · rcases ho with ⟨_, o, _⟩ | ⟨o1, o, _⟩ <;> omega
        · have il : i < v - s.at_ := by rcases ho with ⟨_, o, _⟩ | ⟨o1, o, _⟩ <;> omega
          rcases ho with ⟨o1, o, o2⟩ | ⟨o1, o, o2⟩
          · omega
          · rw [o2 i il, atI_get (by omega)]
            have g := fg (i := s.at_ + i) (by omega)
            rw [List.getElem?_append_right (by omega), t2, List.getElem?_append_left (by omega), List.getElem?_eq_getElem (by omega)] at g
            have e3 : s.at_ + i - x.D.length = i := by omega
            simp only [e3, Option.some.injEq] at g
            exact g.symm

theorem Jn.inM {s : HS} {x : RH} {M : List (ByteArray × Int)} (j : Jn s x M) : inM M x := fun k hk => by
  obtain ⟨b, hb⟩ := j.has.1 (nth_marks hk)
  have h1 := j.ok.mark _ _ hb
  have h2 := j.cat.2
  have h3 : x.U.length = s.len - s.at_ := by rw [j.U, HS.undoneL_len]
  have := j.ok.le
  exact ⟨h1.1, by have := h1.2; simp only at this ⊢; omega⟩

theorem aheadM_trans {x y z : ByteArray × Int} (h1 : aheadM y x = false) (h2 : aheadM z y = false) : aheadM z x = false := by
  unfold aheadM at *
  simp only [Bool.or_eq_false_iff, decide_eq_false_iff_not, Bool.and_eq_false_iff] at *
  refine ⟨by omega, ?_⟩
  rcases h1.2 with h | h
  · left; omega
  rcases h2.2 with h' | h'
  · left; omega
  by_cases e : z.2 = x.2
  · right
    cases hz : ltS z.1 x.1 with
    | false => rfl
    | true =>
      have n1 : ¬ ltS y.1 x.1 = true := by rw [h]; simp
      have n2 : ¬ ltS z.1 y.1 = true := by rw [h']; simp
      by_cases h3 : ltS y.1 z.1 = true
      · exact absurd (ltS_trans h3 hz) n1
      · rw [ltS_tri n2 h3] at hz
        exact absurd hz n1
  · exact .inl e

theorem insM_sorted {m : ByteArray × Int} : ∀ {l : List (ByteArray × Int)}, l.Pairwise (fun x y => aheadM y x = false) → (insM m l).Pairwise (fun x y => aheadM y x = false)
  | [], _ => by simp [insM]
  | a :: l, h => by
    obtain ⟨h1, h2⟩ := List.pairwise_cons.1 h
    by_cases ha : aheadM a m = true
    · have e : insM m (a :: l) = a :: insM m l := by simp [insM, List.takeWhile, List.dropWhile, ha]
      rw [e]
      refine List.pairwise_cons.2 ⟨fun y hy => ?_, insM_sorted h2⟩
      rcases List.mem_cons.1 ((insM_perm m l).mem_iff.1 hy) with rfl | hy
      · unfold aheadM at ha ⊢
        simp only [Bool.or_eq_true, decide_eq_true_eq, Bool.and_eq_true, Bool.or_eq_false_iff, decide_eq_false_iff_not, Bool.and_eq_false_iff] at *
        rcases ha with ha | ⟨ha, hb⟩
        · exact ⟨by omega, .inl (by omega)⟩
        · refine ⟨by omega, .inr ?_⟩
          cases hz : ltS y.1 a.1 with
          | false => rfl
          | true => exact absurd (ltS_trans hb hz) (ltS_irrefl _)
      · exact h1 y hy
    · have ha : aheadM a m = false := by cases hh : aheadM a m with | false => rfl | true => exact absurd hh ha
      have e : insM m (a :: l) = m :: a :: l := by simp [insM, List.takeWhile, List.dropWhile, ha]
      rw [e]
      refine List.pairwise_cons.2 ⟨fun y hy => ?_, h⟩
      rcases List.mem_cons.1 hy with rfl | hy
      · exact ha
      · exact aheadM_trans ha (h1 y hy)

theorem sortL_sorted (l : List (ByteArray × Int)) : (sortL l).Pairwise (fun x y => aheadM y x = false) := by
  have : ∀ (l s : List (ByteArray × Int)), s.Pairwise (fun x y => aheadM y x = false) → (l.foldl (fun s m => insM m s) s).Pairwise (fun x y => aheadM y x = false) := by
    intro l
    induction l with
    | nil => intro s h; exact h
    | cons m l ih => intro s h; exact ih _ (insM_sorted h)
  exact this l [] List.Pairwise.nil

theorem Jn.names {s : HS} {x : RH} {M : List (ByteArray × Int)} (j : Jn s x M) : namesL M = s.marksL := by
  unfold namesL HS.marksL
  refine sortNm_one ?_ ?_
  · refine ((sortL_perm M).map _).trans ?_
    refine (j.M.map _).trans ?_
    rw [List.map_map]
    exact List.Perm.refl _
  · rw [List.pairwise_map]
    refine (sortL_sorted M).imp_of_mem fun {a b} ha hb h hah => ?_
    obtain ⟨c, hc⟩ := j.has.1 ((sortL_perm M).mem_iff.1 ha)
    obtain ⟨d, hd⟩ := j.has.1 ((sortL_perm M).mem_iff.1 hb)
    unfold aheadM at h
    unfold Go.Sp.ahead at hah
    rw [mv_in j.ok.keys (show ((a.1, a.2), c) ∈ s.es from hc), mv_in j.ok.keys (show ((b.1, b.2), d) ∈ s.es from hd)] at hah
    simp only [Bool.or_eq_false_iff, decide_eq_false_iff_not, Bool.and_eq_false_iff] at h
    rcases hah with h1 | ⟨h1, h2⟩
    · exact h.1 h1
    · rcases h.2 with h3 | h3
      · exact h3 h1
      · rw [h3] at h2; cases h2

end Go.Eng

namespace Go.Eng
open Go Go.Sp

/-- Behind a step. -/
def stepQ (hn : Nat) (z : AV) (H' : HH) : Prop := ∃ (s' : HS) (x' : RH) (M' : List (ByteArray × Int)) (S' Sx' : List Nat) (b : Option Addr) (n o c : Nat) (S3 : List Nat), Jn s' x' M' ∧ s'.hn = hn ∧ z.den = (AV.tup [x'.v (.os 2 b n o 0 2 M'.length c), .v (.bool true)]).den ∧ LeH H' [hH s' S', refB x' Sx', rM n o M' S3]

end Go.Eng
namespace Go.Proofs.Ytkjnkepdhbpnbaa
open Go Go.Eng Go.Sp
set_option linter.unusedVariables false
set_option linter.unusedSimpArgs false

set_option maxHeartbeats 4000000 in
theorem stp_lc (s : HS) (S : List Nat) (x : RH) (Sx : List Nat) (b3 : Option Addr) (n3 o3 c3 : Nat) (M : List (ByteArray × Int)) (S3 : List Nat) (kind X : Int) (nm : ByteArray) (j : Jn s x M) :
    LC Try.prog 19 [.ptr 0 s.hn 0, x.v (.os 2 b3 n3 o3 0 2 M.length c3), .agg [.v (.int .i64 kind), .v (.int .i64 X), .v (.string nm)]] [hH s S, refB x Sx, rM n3 o3 M S3] (stepQ s.hn) :=
  stp_vc s S x Sx b3 n3 o3 c3 M S3 kind X nm (by
    have hl := j.cat.2
    have hu : x.U.length = s.len - s.at_ := by rw [j.U, HS.undoneL_len]
    have hle := j.ok.le
    have hlm := j.ok.lm
    have m0 := j.ok.m0
    have m1 := j.ok.m1
    have ml : M.length = s.es.length := by rw [j.M.length_eq, List.length_map]
    have few := j.few
    intro n1 n2 n4
    simp only [true_and, and_true]
    refine br_intro (fun h1 => ?_) (fun h1 => br_intro (fun h2 => ?_) (fun h2 => br_intro (fun h3 => ?_) (fun h3 => br_intro (fun h4 => ?_) (fun h4 => ?_))))
    · refine ⟨x, Sx, _, _, _, rfl, rfl, rfl, ⟨by omega, by omega⟩, fun x' y code S' hr n14 => ⟨s, S, rfl, rfl, j.ok, fun S2 => ⟨fun e => ?_, fun e => ?_⟩⟩⟩
      · obtain ⟨e1, e2, e3⟩ := (j.back hr).1 e
        subst e1; subst e2
        exact ⟨s, x', M, S2, S', b3, n3, o3, c3, S3, e3, rfl, rfl, leAt [0, 1, 2] (by decide) (LeBs.refl _)⟩
      · obtain ⟨e1, e2, e3⟩ := (j.back hr).2 e
        subst e1; subst e2
        rw [beq_self_eq_true]
        exact ⟨s.back, x', M, S2, S', b3, n3, o3, c3, S3, e3, rfl, rfl, leAt [0, 1, 2] (by decide) (LeBs.refl _)⟩
    · refine ⟨x, Sx, _, _, _, rfl, rfl, rfl, ⟨by omega, by omega⟩, fun x' y code S' hr n14 => ⟨s, S, rfl, rfl, j.ok, fun S2 => ⟨fun e => ?_, fun e => ?_⟩⟩⟩
      · obtain ⟨e1, e2, e3⟩ := (j.again hr).1 e
        subst e1; subst e2
        exact ⟨s, x', M, S2, S', b3, n3, o3, c3, S3, e3, rfl, rfl, leAt [0, 1, 2] (by decide) (LeBs.refl _)⟩
      · obtain ⟨e1, e2, e3⟩ := (j.again hr).2 e
        subst e1; subst e2
        rw [beq_self_eq_true]
        exact ⟨s.again, x', M, S2, S', b3, n3, o3, c3, S3, e3, rfl, rfl, leAt [0, 1, 2] (by decide) (LeBs.refl _)⟩
    · refine ⟨M, S3, true, rfl, rfl, by omega, fun code hb n9 => ⟨s, S, rfl, rfl, j.ok, fun S2 => ?_⟩, fun M' a n9 n10 S4 hr n13 => ⟨s, S, rfl, rfl, j.ok, fun S2 => ?_⟩⟩
      · rcases j.mark_bad hb with ⟨e1, rfl⟩ | ⟨e1, e2, e3, rfl⟩
        · exact ⟨fun _ => ⟨s, x, M, S2, Sx, b3, n3, o3, c3, S3, j, rfl, rfl, leAt [0, 1, 2] (by decide) (LeBs.refl _)⟩, fun h => absurd e1 h⟩
        · exact ⟨fun h => absurd h e1, fun _ => ⟨fun v b h => absurd h (e2 v b), fun _ => ⟨fun _ => ⟨s, x, M, S2, Sx, b3, n3, o3, c3, S3, j, rfl, rfl, leAt [0, 1, 2] (by decide) (LeBs.refl _)⟩, fun h => absurd h (by omega)⟩⟩⟩
      · rw [hl] at hr
        obtain ⟨e1, e⟩ := j.mark hr
        refine ⟨fun h => absurd h e1, fun _ => ?_⟩
        rcases e with ⟨e2, e3, e4⟩ | ⟨v, b, e2, e3⟩
        · exact ⟨fun v b h => absurd h (e2 v b), fun _ => ⟨fun h => absurd h (by omega), fun _ => ⟨s.mark1 nm, x, M', S2, Sx, a, n9, 0, n10, S4, e4, rfl, rfl, leAt [0, 1, 6] (by decide) (LeBs.refl _)⟩⟩⟩
        · exact ⟨fun v' b' h => ⟨s.remark nm b', x, M', S2, Sx, a, n9, 0, n10, S4, e3 v' b' h, rfl, rfl, leAt [0, 1, 6] (by decide) (LeBs.refl _)⟩, fun h => absurd e2 (h v b)⟩
    · refine ⟨x, Sx, M, S3, true, rfl, rfl, rfl, rfl, by decide, ⟨by omega, by omega, j.inM⟩, fun x' mv code S' a n14 n15 S4 hr n18 => ⟨s, S, rfl, rfl, j.ok, fun s' mv' code' S2 a2 n26 n27 S5 ho => ?_⟩⟩
      obtain ⟨rfl, rfl, e3⟩ := j.to hr ho
      have hn : s'.hn = s.hn := by
        rcases ho with ⟨_, rfl, _⟩ | ⟨v, b, _, _, rfl, _⟩ <;> rfl
      have hmv : mv'.length ≤ 1048576 := by
        rcases ho with ⟨_, _, rfl, _⟩ | ⟨v, b, _, hv, _, _, ⟨_, h, _⟩ | ⟨_, h, _⟩⟩
        · simp
        · omega
        · omega
      refine ⟨mv', mv', S4, S5, true, true, rfl, rfl, rfl, rfl, (by show ([6, 8] : List Nat).Nodup; decide), hmv, ?_⟩
      rw [decide_eq_true rfl, beq_self_eq_true]
      exact ⟨s', x', M, S2, S', b3, n3, o3, c3, S3, e3, hn, rfl, leAt [0, 1, 2] (by decide) (LeBs.refl _)⟩
    · refine ⟨x, Sx, M, S3, true, rfl, rfl, rfl, rfl, by decide, ⟨by omega, by omega, j.inM, by rw [j.most]; exact m0, by rw [j.most]; exact m1⟩, fun x' low S' a n13 n14 S4 hr => ⟨s, S, rfl, rfl, j.ok, fun S2 => ?_⟩⟩
      exact ⟨s.push X, x', _, S2, S', a, n13, 0, n14, S4, j.push hr, rfl, rfl, leAt [0, 1, 6] (by decide) (LeBs.refl _)⟩)

end Go.Proofs.Ytkjnkepdhbpnbaa

