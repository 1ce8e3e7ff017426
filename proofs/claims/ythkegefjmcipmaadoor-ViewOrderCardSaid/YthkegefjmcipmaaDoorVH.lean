/- View: widths: their condition. -/
import Derived.Test.YthkegefjmcipmaaDoorVE
import Derived.Test.YthkegefjmcipmaaDoorVD
namespace Go.Eng
open Go Go.Sp Go.Proofs.YthkegefjmcipmaaDoor

/-- Columns, as a handler. -/
def colsHd : Handler := fun _ args H K =>
  match args with
  | [.agg [.v (.int .i64 t), .v (.int .i64 lf), .v (.int .i64 b), .v (.int .i64 rt)], .os i _ n o 0 4 k _, .v (.int .i64 most)] => ∃ (l : List Dw) (S : List Nat) (wr : Option (Nat × TypeId)) (w : Bool), nth H i = some ⟨n, .dl Dw dwD o l S wr none, w⟩ ∧ k = l.length ∧ l.length ≤ 1048576 ∧ badV t lf b rt most = 0 ∧
      ∀ (a : Option Addr) (nn c : Nat) (Sl : List Nat) (cs : List CD) (Sc : List Nat), colsIs l t b lf (fun j => colW l most t (b - t + 1).toNat (lf + (j : Int))) cs (rt - lf + 1).toNat → K (.ret (.os H.length a nn 0 0 1 (rt - lf + 1).toNat c)) (H ++ [⟨nn, .dl Nat ptrD 0 (cs.map CD.num) Sl none none, true⟩, colsB cs Sc])
  | _ => False

structure WY where
  i : Nat
  a : Option Addr
  n : Nat
  cap : Nat
  S : List Nat
  c : CD
  cs : List CD
  Sr : List Nat

def wdJ (l : List Dw) (most t lf : Int) (k m : Nat) : Nat → TT → HH → LI := fun b T H =>
  bif Nat.beq b 0 then
    match H with
    | [_, b1, ⟨ln, .dl _ _ _ _ Sl wr _, _⟩, _] =>
      .sem [⟨WY, fun x => ((23, .v (.int .i64 (x.i : Int))) :: (9, .os 1 x.a x.n 0 0 1 x.i x.cap) :: (21, (match T.get 21 with | some (.os _ a n o i s l c) => .os 2 a n o i s l c | _ => .v (.int .i64 0))) :: keepT [22] T, [b1, wD intD x.n (wsL l most t k lf x.i) x.S x.cap 3, ⟨ln, .dl Nat ptrD 0 (x.cs.map CD.num) Sl wr (some (x.i, [.ptr 4 x.c.num 0])), true⟩, colsB (x.cs.eraseIdx x.i) x.Sr, cdF x.c, cdM x.c]),
        fun x => x.i < m ∧ x.cs[x.i]? = some x.c ∧ emptyOk x.a x.n x.i x.cap ∧ x.i ≤ x.cap ∧ (∀ (i : Nat) (c : CD), x.cs[i]? = some c → c.width = colW l most t k (lf + (i : Int))) ∧ x.cs.length = m, fun x => m - x.i⟩,
       ⟨WY, fun x => ((23, .v (.int .i64 ((m : Nat) : Int))) :: (9, .os 1 x.a x.n 0 0 1 m x.cap) :: keepT [22] T, [b1, wD intD x.n (wsL l most t k lf m) x.S x.cap 3]),
        fun x => emptyOk x.a x.n m x.cap ∧ m ≤ x.cap, fun _ => 0⟩]
    | _ => .unroll 0
  else .unroll 0

end Go.Eng
namespace Go.Proofs.YthkegefjmcipmaaDoor
open Go Go.Eng Go.Sp
set_option linter.unusedVariables false
set_option linter.unusedSimpArgs false

theorem cols_ok : HOk Tryd.prog 24 colsHd := HOk.of_make (enters_of (c := body Tryd.f24) Tryd.func24 rfl (by kernel_rfl)) fun rs args H K hk => by
  unfold colsHd at hk
  split at hk
  · rename_i t lf b rt i a n o k cap most
    obtain ⟨l, S, wr, w, h1, rfl, h2, e, hk2⟩ := hk
    obtain ⟨g1, g2, g3, g4⟩ := badV_zero e
    refine ⟨[rD dwD n o l S false], [.agg [.v (.int .i64 t), .v (.int .i64 lf), .v (.int .i64 b), .v (.int .i64 rt)], .os 0 a n o 0 4 l.length cap, .v (.int .i64 most)], _, leAt (H := H) [i] (by simp) ?_, fun b hb => by cases List.mem_singleton.1 hb; rfl, rfl, cols_lc t lf b rt l a n o cap S most g1 ⟨g2, g3⟩ g4 h2, fun z H' hz => ?_⟩
    · simp only [pickH, h1]
      exact ⟨LeB.dl (fun h => (by cases h)) (.inl rfl), trivial⟩
    · obtain ⟨a, nn, c, Sl, cs, Sc, e1, e2, e3⟩ := hz
      exact ⟨.os H.length a nn 0 0 1 (rt - lf + 1).toNat c, _, by rw [e1]; rfl, e3, fun b hb => (by
        rcases List.mem_cons.1 hb with rfl | hb
        · rfl
        · cases List.mem_singleton.1 hb; rfl), hk2 a nn c Sl cs Sc e2⟩
  · cases hk


set_option maxRecDepth 100000 in
theorem chk_vc (t l b r most : Int) {R : AV → Prop} (h : (∀ (n1 : Nat), n1 = n1 ∧ br (ifB (okR t l b r) (0 : Int) (2 : Int) != (0 : Int)) (R (AV.v (Value.int IntKind.i64 (2 : Int)))) (br (decide (most < (1 : Int))) (R (AV.v (Value.int IntKind.i64 (2 : Int)))) (br (decide (most > (60 : Int))) (R (AV.v (Value.int IntKind.i64 (2 : Int)))) (br (decide (areaF t l b r > (4096 : Int))) (R (AV.v (Value.int IntKind.i64 (7 : Int)))) (R (AV.v (Value.int IntKind.i64 (0 : Int))))))))) : LC Tryd.prog 23 [.agg [.v (.int .i64 t), .v (.int .i64 l), .v (.int .i64 b), .v (.int .i64 r)], .v (.int .i64 most)] [] (fun z_ _ => R z_) :=
  lc_of_exec (tbl := pt4) tab_ok pt4_ok mixed noinv 2 _ Tryd.func23 rfl Tryd.ntmps23 (by decide) (by kernel_rfl) (Nat.le_of_ble_eq_true rfl) (@Eq.mpr (execN tab pt4 noinv 2 Tryd.f23.ntmps [] none 0 (body Tryd.f23) (argsT [.agg [.v (.int .i64 t), .v (.int .i64 l), .v (.int .i64 b), .v (.int .i64 r)], .v (.int .i64 most)] 0) [] (post Tryd.f23 tab (retK (fun z_ _ => R z_)))) _ (by kernel_rfl) h)

set_option maxRecDepth 100000 in
theorem chk_lc (t l b r most : Int) : LC Tryd.prog 23 [.agg [.v (.int .i64 t), .v (.int .i64 l), .v (.int .i64 b), .v (.int .i64 r)], .v (.int .i64 most)] [] (fun z_ _ => z_ = .v (.int .i64 (badV t l b r most))) :=
  chk_vc t l b r most (by
    intros
    simp only [true_and, br_iff, AV.v.injEq, Value.int.injEq, and_true, badV, areaF]
    by_cases h : okR t l b r = true
    all_goals simp [ifB, h]
    all_goals repeat' split
    all_goals repeat' (first | refine ⟨?_, ?_⟩ | intro _)
    all_goals (first | omega | trivial | skip))

def chkH : List AV → Option AV
  | [.agg [.v (.int .i64 t), .v (.int .i64 l), .v (.int .i64 b), .v (.int .i64 r)], .v (.int .i64 most)] => some (.v (.int .i64 (badV t l b r most)))
  | _ => none

theorem chk_ok : POk Tryd.prog 23 chkH := POk.of_lc (enters_of (c := body Tryd.f23) Tryd.func23 rfl (by kernel_rfl)) (by
  intro args v h
  unfold chkH at h
  split at h
  · cases h; exact chk_lc _ _ _ _ _
  · cases h)


def tbWd : Tbl := (23, .pure chkH) :: (24, .gen colsHd) :: (4294900003, .dt Int intD) :: (4294967294, .ext mergeFlag) :: []

theorem tbWd_ok : TblOk Tryd.prog tbWd := ⟨chk_ok, cols_ok, intD_ok, flag_ok, trivial⟩


set_option maxRecDepth 100000 in
theorem wd_vc (t lf b rt : Int) (l : List Dw) (a : Option Addr) (n o cap : Nat) (S : List Nat) (most : Int) {R : AV → HH → Prop} (h : (∀ (n1 : Nat), n1 = n1 ∧ br (badV t lf b rt most != (0 : Int)) (R (AV.tup [AV.v (Value.slice none (0 : Nat) (0 : Nat)), AV.v (Value.int IntKind.i64 (badV t lf b rt most))]) [Blk.mk n (Cont.dl Dw dwD o l S none none) false, Blk.mk n1 (Cont.cells [AV.v (Value.int IntKind.i64 t), AV.v (Value.int IntKind.i64 lf), AV.v (Value.int IntKind.i64 b), AV.v (Value.int IntKind.i64 rt)] (23 : Nat)) true]) (n1 = n1 ∧ ∃ (l_1 : List Dw), ∃ (S_1 : List Nat), ∃ (wr : Option (Nat × TypeId)), ∃ (w : Bool), some (Blk.mk n (Cont.dl Dw dwD o l S none none) false) = some (Blk.mk n (Cont.dl Dw dwD o l_1 S_1 wr none) w) ∧ l.length = l_1.length ∧ l_1.length ≤ (1048576 : Nat) ∧ badV t lf b rt most = (0 : Int) ∧ ∀ (a : Option Addr) (n7 n8 : Nat) (Sl : List Nat) (cs : List CD) (Sc : List Nat), colsIs l_1 t b lf (fun (j : Nat) => colW l_1 most t (b - t + (1 : Int)).toNat (lf + (↑j : Int))) cs (rt - lf + (1 : Int)).toNat → (∀ (w : World), HoldsH [Blk.mk n (Cont.dl Dw dwD o l S none none) false, Blk.mk n1 (Cont.cells [AV.v (Value.int IntKind.i64 t), AV.v (Value.int IntKind.i64 lf), AV.v (Value.int IntKind.i64 b), AV.v (Value.int IntKind.i64 rt)] (23 : Nat)) true, Blk.mk n7 (Cont.dl Nat ptrD (0 : Nat) (List.map CD.num cs) Sl none none) true, Blk.mk (0 : Nat) (Cont.res (List CD × List Nat) (cs, Sc) (fun (x : List CD × List Nat) => x.snd) (packI colsC)) true] w → (∃ (x : WY), (x.i < (rt - lf + (1 : Int)).toNat ∧ x.cs[x.i]? = some x.c ∧ (x.i = (0 : Nat) → x.cap = (0 : Nat) ∨ x.a = some (Addr.mk x.n (0 : Nat) none)) ∧ x.i ≤ x.cap ∧ (∀ (n16 : Nat) (c : CD), x.cs[n16]? = some c → c.width = colW l most t (b - t + (1 : Int)).toNat (lf + (↑n16 : Int))) ∧ x.cs.length = (rt - lf + (1 : Int)).toNat) ∧ ((AV.v (Value.int IntKind.i64 (0 : Int))).den = (AV.v (Value.int IntKind.i64 (↑x.i : Int))).den ∧ (AV.v (Value.slice none (0 : Nat) (0 : Nat))).den = (AV.os (1 : Nat) x.a x.n (0 : Nat) (0 : Nat) (1 : Nat) x.i x.cap).den ∧ (AV.os (2 : Nat) a n7 (0 : Nat) (0 : Nat) (1 : Nat) (rt - lf + (1 : Int)).toNat n8).den = (AV.os (2 : Nat) a n7 (0 : Nat) (0 : Nat) (1 : Nat) (rt - lf + (1 : Int)).toNat n8).den ∧ (AV.v (Value.int IntKind.i64 (↑(rt - lf + (1 : Int)).toNat : Int))).den = (AV.v (Value.int IntKind.i64 (↑(rt - lf + (1 : Int)).toNat : Int))).den ∧ True) ∧ To [Blk.mk n (Cont.dl Dw dwD o l S none none) false, Blk.mk n1 (Cont.cells [AV.v (Value.int IntKind.i64 t), AV.v (Value.int IntKind.i64 lf), AV.v (Value.int IntKind.i64 b), AV.v (Value.int IntKind.i64 rt)] (23 : Nat)) true, Blk.mk n7 (Cont.dl Nat ptrD (0 : Nat) (List.map CD.num cs) Sl none none) true, Blk.mk (0 : Nat) (Cont.res (List CD × List Nat) (cs, Sc) (fun (x : List CD × List Nat) => x.snd) (packI colsC)) true] [Blk.mk n1 (Cont.cells [AV.v (Value.int IntKind.i64 t), AV.v (Value.int IntKind.i64 lf), AV.v (Value.int IntKind.i64 b), AV.v (Value.int IntKind.i64 rt)] (23 : Nat)) true, Blk.mk x.n (Cont.dl Int intD (0 : Nat) (wsL l most t (b - t + (1 : Int)).toNat lf x.i) x.S (some (x.cap, (3 : TypeId))) none) true, Blk.mk n7 (Cont.dl Nat ptrD (0 : Nat) (List.map CD.num x.cs) Sl none (some (x.i, [AV.ptr (4 : Nat) x.c.num (0 : Nat)]))) true, Blk.mk (0 : Nat) (Cont.res (List CD × List Nat) (x.cs.eraseIdx x.i, x.Sr) (fun (x : List CD × List Nat) => x.snd) (packI colsC)) true, Blk.mk x.c.num (Cont.cells [AV.v (Value.string x.c.letters), AV.v (Value.int IntKind.i64 x.c.width), AV.mp (5 : Nat) x.c.mnum] (63 : Nat)) true, Blk.mk x.c.mnum (Cont.mape (Int × Dw) kyC vlC mkC x.c.es x.c.clock) true] w) ∨ ∃ (x : WY), (((rt - lf + (1 : Int)).toNat = (0 : Nat) → x.cap = (0 : Nat) ∨ x.a = some (Addr.mk x.n (0 : Nat) none)) ∧ (rt - lf + (1 : Int)).toNat ≤ x.cap) ∧ ((AV.v (Value.int IntKind.i64 (0 : Int))).den = (AV.v (Value.int IntKind.i64 (↑(rt - lf + (1 : Int)).toNat : Int))).den ∧ (AV.v (Value.slice none (0 : Nat) (0 : Nat))).den = (AV.os (1 : Nat) x.a x.n (0 : Nat) (0 : Nat) (1 : Nat) (rt - lf + (1 : Int)).toNat x.cap).den ∧ (AV.v (Value.int IntKind.i64 (↑(rt - lf + (1 : Int)).toNat : Int))).den = (AV.v (Value.int IntKind.i64 (↑(rt - lf + (1 : Int)).toNat : Int))).den ∧ True) ∧ To [Blk.mk n (Cont.dl Dw dwD o l S none none) false, Blk.mk n1 (Cont.cells [AV.v (Value.int IntKind.i64 t), AV.v (Value.int IntKind.i64 lf), AV.v (Value.int IntKind.i64 b), AV.v (Value.int IntKind.i64 rt)] (23 : Nat)) true, Blk.mk n7 (Cont.dl Nat ptrD (0 : Nat) (List.map CD.num cs) Sl none none) true, Blk.mk (0 : Nat) (Cont.res (List CD × List Nat) (cs, Sc) (fun (x : List CD × List Nat) => x.snd) (packI colsC)) true] [Blk.mk n1 (Cont.cells [AV.v (Value.int IntKind.i64 t), AV.v (Value.int IntKind.i64 lf), AV.v (Value.int IntKind.i64 b), AV.v (Value.int IntKind.i64 rt)] (23 : Nat)) true, Blk.mk x.n (Cont.dl Int intD (0 : Nat) (wsL l most t (b - t + (1 : Int)).toNat lf (rt - lf + (1 : Int)).toNat) x.S (some (x.cap, (3 : TypeId))) none) true] w) ∧ (∀ (x : WY), x.i < (rt - lf + (1 : Int)).toNat ∧ x.cs[x.i]? = some x.c ∧ emptyOk x.a x.n x.i x.cap ∧ x.i ≤ x.cap ∧ (∀ (i : Nat) (c : CD), x.cs[i]? = some c → c.width = colW l most t (b - t + (1 : Int)).toNat (lf + (↑i : Int))) ∧ x.cs.length = (rt - lf + (1 : Int)).toNat → br (decide ((↑x.i : Int) < (↑(rt - lf + (1 : Int)).toNat : Int))) (((0 : Int) ≤ (↑x.i : Int) ∧ (↑x.i : Int) < (↑(rt - lf + (1 : Int)).toNat : Int)) ∧ n7 = n7 ∧ (0 : Nat) = (0 : Nat) ∧ (0 : Nat) + (↑x.i : Int).toNat < (List.map CD.num x.cs).length ∧ (0 : Nat) + (↑x.i : Int).toNat = x.i ∧ x.c.num = x.c.num ∧ ∀ (n15 : Nat), n15 = n15 ∧ x.n = x.n ∧ (0 : Nat) = (0 : Nat) ∧ (0 : Nat) = (0 : Nat) ∧ x.i ≤ (wsL l most t (b - t + (1 : Int)).toNat lf x.i).length ∧ x.cap ≤ x.cap ∧ (x.i = (0 : Nat) → x.cap = (0 : Nat) ∨ x.a = some (Addr.mk x.n (0 : Nat) none)) ∧ x.i ≤ x.cap ∧ (x.i + (1 : Nat) ≤ (9223372036854775807 : Nat) ∧ (x.i + (1 : Nat) + (x.i + (1 : Nat)) / (4 : Nat) + (192 : Nat)) * (8 : Nat) ≤ (281474976710656 : Nat)) ∧ ∀ (a' : Option Addr) (n17 n18 : Nat) (S' : List Nat), x.i + (1 : Nat) ≤ n18 → emptyOk a' n17 (x.i + (1 : Nat)) n18 → ∀ (w : World), HoldsH [Blk.mk n1 (Cont.cells [AV.v (Value.int IntKind.i64 t), AV.v (Value.int IntKind.i64 lf), AV.v (Value.int IntKind.i64 b), AV.v (Value.int IntKind.i64 rt)] (23 : Nat)) true, Blk.mk n17 (Cont.dl Int intD (0 : Nat) (List.take x.i (wsL l most t (b - t + (1 : Int)).toNat lf x.i) ++ [x.c.width]) S' (some (n18, (3 : Nat))) none) true, Blk.mk n7 (Cont.dl Nat ptrD (0 : Nat) (List.map CD.num x.cs) Sl none (some (x.i, [AV.ptr (4 : Nat) x.c.num (0 : Nat)]))) true, Blk.mk (0 : Nat) (Cont.res (List CD × List Nat) (x.cs.eraseIdx x.i, x.Sr) (fun (x : List CD × List Nat) => x.snd) (packI colsC)) true, Blk.mk x.c.num (Cont.cells [AV.v (Value.string x.c.letters), AV.v (Value.int IntKind.i64 x.c.width), AV.mp (5 : Nat) x.c.mnum] (63 : Nat)) true, Blk.mk x.c.mnum (Cont.mape (Int × Dw) kyC vlC mkC x.c.es x.c.clock) true, Blk.mk n15 (Cont.cells [AV.v (Value.int IntKind.i64 x.c.width)] (3 : Nat)) true] w → (∃ (x_1 : WY), (x_1.i < (rt - lf + (1 : Int)).toNat ∧ x_1.cs[x_1.i]? = some x_1.c ∧ (x_1.i = (0 : Nat) → x_1.cap = (0 : Nat) ∨ x_1.a = some (Addr.mk x_1.n (0 : Nat) none)) ∧ x_1.i ≤ x_1.cap ∧ (∀ (n25 : Nat) (c : CD), x_1.cs[n25]? = some c → c.width = colW l most t (b - t + (1 : Int)).toNat (lf + (↑n25 : Int))) ∧ x_1.cs.length = (rt - lf + (1 : Int)).toNat) ∧ (rt - lf + (1 : Int)).toNat - x_1.i < (rt - lf + (1 : Int)).toNat - x.i ∧ ((AV.v (Value.int IntKind.i64 (IntKind.i64.wrap ((↑x.i : Int) + (1 : Int))))).den = (AV.v (Value.int IntKind.i64 (↑x_1.i : Int))).den ∧ (AV.os (1 : Nat) a' n17 (0 : Nat) (0 : Nat) (1 : Nat) (x.i + (1 : Nat)) n18).den = (AV.os (1 : Nat) x_1.a x_1.n (0 : Nat) (0 : Nat) (1 : Nat) x_1.i x_1.cap).den ∧ (AV.os (2 : Nat) a n7 (0 : Nat) (0 : Nat) (1 : Nat) (rt - lf + (1 : Int)).toNat n8).den = (AV.os (2 : Nat) a n7 (0 : Nat) (0 : Nat) (1 : Nat) (rt - lf + (1 : Int)).toNat n8).den ∧ (AV.v (Value.int IntKind.i64 (↑(rt - lf + (1 : Int)).toNat : Int))).den = (AV.v (Value.int IntKind.i64 (↑(rt - lf + (1 : Int)).toNat : Int))).den ∧ True) ∧ To [Blk.mk n1 (Cont.cells [AV.v (Value.int IntKind.i64 t), AV.v (Value.int IntKind.i64 lf), AV.v (Value.int IntKind.i64 b), AV.v (Value.int IntKind.i64 rt)] (23 : Nat)) true, Blk.mk n17 (Cont.dl Int intD (0 : Nat) (List.take x.i (wsL l most t (b - t + (1 : Int)).toNat lf x.i) ++ [x.c.width]) S' (some (n18, (3 : Nat))) none) true, Blk.mk n7 (Cont.dl Nat ptrD (0 : Nat) (List.map CD.num x.cs) Sl none (some (x.i, [AV.ptr (4 : Nat) x.c.num (0 : Nat)]))) true, Blk.mk (0 : Nat) (Cont.res (List CD × List Nat) (x.cs.eraseIdx x.i, x.Sr) (fun (x : List CD × List Nat) => x.snd) (packI colsC)) true, Blk.mk x.c.num (Cont.cells [AV.v (Value.string x.c.letters), AV.v (Value.int IntKind.i64 x.c.width), AV.mp (5 : Nat) x.c.mnum] (63 : Nat)) true, Blk.mk x.c.mnum (Cont.mape (Int × Dw) kyC vlC mkC x.c.es x.c.clock) true, Blk.mk n15 (Cont.cells [AV.v (Value.int IntKind.i64 x.c.width)] (3 : Nat)) true] [Blk.mk n1 (Cont.cells [AV.v (Value.int IntKind.i64 t), AV.v (Value.int IntKind.i64 lf), AV.v (Value.int IntKind.i64 b), AV.v (Value.int IntKind.i64 rt)] (23 : Nat)) true, Blk.mk x_1.n (Cont.dl Int intD (0 : Nat) (wsL l most t (b - t + (1 : Int)).toNat lf x_1.i) x_1.S (some (x_1.cap, (3 : TypeId))) none) true, Blk.mk n7 (Cont.dl Nat ptrD (0 : Nat) (List.map CD.num x_1.cs) Sl none (some (x_1.i, [AV.ptr (4 : Nat) x_1.c.num (0 : Nat)]))) true, Blk.mk (0 : Nat) (Cont.res (List CD × List Nat) (x_1.cs.eraseIdx x_1.i, x_1.Sr) (fun (x : List CD × List Nat) => x.snd) (packI colsC)) true, Blk.mk x_1.c.num (Cont.cells [AV.v (Value.string x_1.c.letters), AV.v (Value.int IntKind.i64 x_1.c.width), AV.mp (5 : Nat) x_1.c.mnum] (63 : Nat)) true, Blk.mk x_1.c.mnum (Cont.mape (Int × Dw) kyC vlC mkC x_1.c.es x_1.c.clock) true] w) ∨ ∃ (x_1 : WY), (((rt - lf + (1 : Int)).toNat = (0 : Nat) → x_1.cap = (0 : Nat) ∨ x_1.a = some (Addr.mk x_1.n (0 : Nat) none)) ∧ (rt - lf + (1 : Int)).toNat ≤ x_1.cap) ∧ (0 : Nat) < (rt - lf + (1 : Int)).toNat - x.i ∧ ((AV.v (Value.int IntKind.i64 (IntKind.i64.wrap ((↑x.i : Int) + (1 : Int))))).den = (AV.v (Value.int IntKind.i64 (↑(rt - lf + (1 : Int)).toNat : Int))).den ∧ (AV.os (1 : Nat) a' n17 (0 : Nat) (0 : Nat) (1 : Nat) (x.i + (1 : Nat)) n18).den = (AV.os (1 : Nat) x_1.a x_1.n (0 : Nat) (0 : Nat) (1 : Nat) (rt - lf + (1 : Int)).toNat x_1.cap).den ∧ (AV.v (Value.int IntKind.i64 (↑(rt - lf + (1 : Int)).toNat : Int))).den = (AV.v (Value.int IntKind.i64 (↑(rt - lf + (1 : Int)).toNat : Int))).den ∧ True) ∧ To [Blk.mk n1 (Cont.cells [AV.v (Value.int IntKind.i64 t), AV.v (Value.int IntKind.i64 lf), AV.v (Value.int IntKind.i64 b), AV.v (Value.int IntKind.i64 rt)] (23 : Nat)) true, Blk.mk n17 (Cont.dl Int intD (0 : Nat) (List.take x.i (wsL l most t (b - t + (1 : Int)).toNat lf x.i) ++ [x.c.width]) S' (some (n18, (3 : Nat))) none) true, Blk.mk n7 (Cont.dl Nat ptrD (0 : Nat) (List.map CD.num x.cs) Sl none (some (x.i, [AV.ptr (4 : Nat) x.c.num (0 : Nat)]))) true, Blk.mk (0 : Nat) (Cont.res (List CD × List Nat) (x.cs.eraseIdx x.i, x.Sr) (fun (x : List CD × List Nat) => x.snd) (packI colsC)) true, Blk.mk x.c.num (Cont.cells [AV.v (Value.string x.c.letters), AV.v (Value.int IntKind.i64 x.c.width), AV.mp (5 : Nat) x.c.mnum] (63 : Nat)) true, Blk.mk x.c.mnum (Cont.mape (Int × Dw) kyC vlC mkC x.c.es x.c.clock) true, Blk.mk n15 (Cont.cells [AV.v (Value.int IntKind.i64 x.c.width)] (3 : Nat)) true] [Blk.mk n1 (Cont.cells [AV.v (Value.int IntKind.i64 t), AV.v (Value.int IntKind.i64 lf), AV.v (Value.int IntKind.i64 b), AV.v (Value.int IntKind.i64 rt)] (23 : Nat)) true, Blk.mk x_1.n (Cont.dl Int intD (0 : Nat) (wsL l most t (b - t + (1 : Int)).toNat lf (rt - lf + (1 : Int)).toNat) x_1.S (some (x_1.cap, (3 : TypeId))) none) true] w) (R (AV.tup [AV.os (1 : Nat) x.a x.n (0 : Nat) (0 : Nat) (1 : Nat) x.i x.cap, AV.v (Value.int IntKind.i64 (0 : Int))]) [Blk.mk n1 (Cont.cells [AV.v (Value.int IntKind.i64 t), AV.v (Value.int IntKind.i64 lf), AV.v (Value.int IntKind.i64 b), AV.v (Value.int IntKind.i64 rt)] (23 : Nat)) true, Blk.mk x.n (Cont.dl Int intD (0 : Nat) (wsL l most t (b - t + (1 : Int)).toNat lf x.i) x.S (some (x.cap, (3 : TypeId))) none) true, Blk.mk n7 (Cont.dl Nat ptrD (0 : Nat) (List.map CD.num x.cs) Sl none (some (x.i, [AV.ptr (4 : Nat) x.c.num (0 : Nat)]))) true, Blk.mk (0 : Nat) (Cont.res (List CD × List Nat) (x.cs.eraseIdx x.i, x.Sr) (fun (x : List CD × List Nat) => x.snd) (packI colsC)) true, Blk.mk x.c.num (Cont.cells [AV.v (Value.string x.c.letters), AV.v (Value.int IntKind.i64 x.c.width), AV.mp (5 : Nat) x.c.mnum] (63 : Nat)) true, Blk.mk x.c.mnum (Cont.mape (Int × Dw) kyC vlC mkC x.c.es x.c.clock) true])) ∧ ∀ (x : WY), emptyOk x.a x.n (rt - lf + (1 : Int)).toNat x.cap ∧ (rt - lf + (1 : Int)).toNat ≤ x.cap → br (decide ((↑(rt - lf + (1 : Int)).toNat : Int) < (↑(rt - lf + (1 : Int)).toNat : Int))) False (R (AV.tup [AV.os (1 : Nat) x.a x.n (0 : Nat) (0 : Nat) (1 : Nat) (rt - lf + (1 : Int)).toNat x.cap, AV.v (Value.int IntKind.i64 (0 : Int))]) [Blk.mk n1 (Cont.cells [AV.v (Value.int IntKind.i64 t), AV.v (Value.int IntKind.i64 lf), AV.v (Value.int IntKind.i64 b), AV.v (Value.int IntKind.i64 rt)] (23 : Nat)) true, Blk.mk x.n (Cont.dl Int intD (0 : Nat) (wsL l most t (b - t + (1 : Int)).toNat lf (rt - lf + (1 : Int)).toNat) x.S (some (x.cap, (3 : TypeId))) none) true])))) : LC Tryd.prog 19 [.agg [.v (.int .i64 t), .v (.int .i64 lf), .v (.int .i64 b), .v (.int .i64 rt)], .os 0 a n o 0 4 l.length cap, .v (.int .i64 most)] [rD dwD n o l S false] R :=
  lc_of_exec (tbl := tbWd) tab_ok tbWd_ok mixed ((wdJ l most t lf (b - t + 1).toNat (rt - lf + 1).toNat)) 2 _ Tryd.func19 rfl Tryd.ntmps19 (by decide) (by kernel_rfl) (Nat.le_of_ble_eq_true rfl) (@Eq.mpr (execN tab tbWd ((wdJ l most t lf (b - t + 1).toNat (rt - lf + 1).toNat)) 2 Tryd.f19.ntmps [] none 0 (body Tryd.f19) (argsT [.agg [.v (.int .i64 t), .v (.int .i64 lf), .v (.int .i64 b), .v (.int .i64 rt)], .os 0 a n o 0 4 l.length cap, .v (.int .i64 most)] 0) [rD dwD n o l S false] (post Tryd.f19 tab (retK R))) _ (by kernel_rfl) h)


end Go.Proofs.YthkegefjmcipmaaDoor

namespace Go.Proofs.YthkegefjmcipmaaDoor
open Go Go.Eng Go.Sp
set_option linter.unusedVariables false
set_option linter.unusedSimpArgs false

set_option maxHeartbeats 4000000 in
theorem wd_lc (t lf b rt : Int) (l : List Dw) (a : Option Addr) (n o cap : Nat) (S : List Nat) (most : Int) (hl : l.length ≤ 1048576) :
    LC Tryd.prog 19 [.agg [.v (.int .i64 t), .v (.int .i64 lf), .v (.int .i64 b), .v (.int .i64 rt)], .os 0 a n o 0 4 l.length cap, .v (.int .i64 most)] [rD dwD n o l S false] (fun z H' =>
      (badV t lf b rt most ≠ 0 ∧ z = .tup [.v (.slice none 0 0), .v (.int .i64 (badV t lf b rt most))]) ∨
      (badV t lf b rt most = 0 ∧ ∃ (a : Option Addr) (n c : Nat) (S' : List Nat), z.den = (AV.tup [.os 0 a n 0 0 1 (rt - lf + 1).toNat c, .v (.int .i64 0)]).den ∧ LeH H' [rD intD n 0 (wsL l most t (b - t + 1).toNat lf (rt - lf + 1).toNat) S' true])) :=
  wd_vc t lf b rt l a n o cap S most (by
    simp only [true_and, and_true, Int.toNat_natCast, Nat.zero_add, Nat.le_refl]
    intro n1
    refine br_intro (fun h => .inl (by simpa using h)) (fun h => ?_)
    have e : badV t lf b rt most = 0 := by simpa using h
    obtain ⟨g1, g2, g3, g4⟩ := badV_zero e
    obtain ⟨r1, r2, r3, r4, r5, r6⟩ := okR_b g1
    have mpos : 0 < (rt - lf + 1).toNat := by omega
    refine ⟨l, S, none, false, rfl, rfl, hl, e, fun a2 n7 n8 Sl cs Sc hc => ⟨fun w hw => .inl ?_, fun x hx => ?_, fun x hx => ?_⟩⟩
    · have l1 : ∀ b0 b1 b2 b3 : Blk, LeH [b0, b1, b2, b3] [b1, wD intD 0 [] [] 0 3, b2, b3] := fun b0 b1 b2 b3 =>
        (LeH.more (H := [b0, b1, b2, b3]) (b := wD intD 0 [] [] 0 3) rfl fun w => dl_nil intD_ok (.inr ⟨_, rfl, rfl⟩)).trans (leAt [1, 4, 2, 3] (by decide) ⟨LeB.refl _, LeB.refl _, LeB.refl _, LeB.refl _, trivial⟩)
      have t1 := (l1 _ _ _ _).to hw
      obtain ⟨c, hc1⟩ := hc.some mpos
      obtain ⟨Sr, t2⟩ := cl_open hc1 t1.hp
      exact ⟨⟨0, none, 0, 0, [], c, cs, Sr⟩, ⟨mpos, hc1, fun _ => .inl rfl, Nat.le_refl _, hc.wde, hc.len⟩, ⟨rfl, rfl⟩, t1.trans t2⟩
    · obtain ⟨x1, x2, x3, x4, x5, x6⟩ := hx
      refine br_intro (fun _ => ?_) (fun h => absurd (of_decide_eq_false h) (by omega))
      have wl := wsL_len l most t (b - t + 1).toNat lf x.i
      refine ⟨⟨by omega, by omega⟩, by rw [List.length_map, x6]; exact x1, fun n15 => ⟨by omega, x3, x4, ⟨by omega, by omega⟩, fun a' n17 n18 S' k1 k2 w hw => ?_⟩⟩
      have ex : x.cs.set x.i x.c = x.cs := by
        obtain ⟨h1, h2⟩ := List.getElem?_eq_some_iff.1 x2
        rw [← h2, List.set_getElem_self]
      rw [List.take_of_length_le (by omega), x5 _ _ x2, ← wsL_one] at hw ⊢
      obtain ⟨S2, t2⟩ := fc_close (c1 := x.c) x2 rfl hw (leAt [0, 1, 2, 3, 4, 5] (by decide) ⟨LeB.refl _, LeB.refl _, LeB.refl _, LeB.refl _, LeB.cells (by rw [x5 _ _ x2]; rfl) (fun h => h), LeB.refl _, trivial⟩)
      rw [ex] at t2
      by_cases hz : x.i + 1 < (rt - lf + 1).toNat
      · refine .inl ?_
        obtain ⟨c, hc⟩ : ∃ c, x.cs[x.i + 1]? = some c := ⟨_, List.getElem?_eq_getElem (by rw [x6]; exact hz)⟩
        obtain ⟨Sr, t3⟩ := cl_open hc t2.hp
        exact ⟨⟨x.i + 1, a', n17, n18, S', c, x.cs, Sr⟩, ⟨hz, hc, k2, k1, x5, x6⟩, by show _ - (x.i + 1) < _; omega, ⟨by rw [w64 (by omega)]; rfl, rfl⟩, t2.trans t3⟩
      · have hm : x.i + 1 = (rt - lf + 1).toNat := by omega
        refine .inr ⟨⟨0, a', n17, n18, S', x.c, x.cs, S2⟩, ⟨fun h => (by omega), by show _ ≤ n18; omega⟩, by omega, ⟨by rw [w64 (by omega)]; simp only [AV.den]; congr 1; omega, by rw [hm]⟩, ?_⟩
        rw [← hm]
        have l3 : ∀ b0 b1 b2 b3 : Blk, LeH [b0, b1, b2, b3] [b0, b1] := fun b0 b1 b2 b3 => leAt [0, 1] (by decide) ⟨LeB.refl _, LeB.refl _, trivial⟩
        exact t2.trans ((l3 _ _ _ _).to t2.hp)
    · refine br_intro (fun h => absurd (of_decide_eq_true h) (by omega)) (fun _ => ?_)
      exact .inr ⟨e, x.a, x.n, x.cap, x.S, rfl, leAt [1] (by decide) ⟨LeB.dl (fun h => h) (.inl rfl), trivial⟩⟩)

theorem wd_ok : HOk Tryd.prog 19 rwdH := HOk.of_make (enters_of (c := body Tryd.f19) Tryd.func19 rfl (by kernel_rfl)) fun rs args H K hk => by
  unfold rwdH at hk
  split at hk
  · rename_i t lf b rt i a n o k cap most
    obtain ⟨l, S, wr, w, h1, rfl, h2, hk1, hk2⟩ := hk
    refine ⟨[rD dwD n o l S false], [.agg [.v (.int .i64 t), .v (.int .i64 lf), .v (.int .i64 b), .v (.int .i64 rt)], .os 0 a n o 0 4 l.length cap, .v (.int .i64 most)], _, leAt (H := H) [i] (by simp) ?_, fun b hb => by cases List.mem_singleton.1 hb; rfl, rfl, wd_lc t lf b rt l a n o cap S most h2, fun z H' hz => ?_⟩
    · simp only [pickH, h1]
      exact ⟨LeB.dl (fun h => (by cases h)) (.inl rfl), trivial⟩
    · rcases hz with ⟨e, rfl⟩ | ⟨e, a, n, c, S', e2, e3⟩
      · exact ⟨_, [], rfl, leAt [] List.nodup_nil trivial, fun b hb => (by cases hb), by rw [List.append_nil]; exact hk1 _ rfl e⟩
      · exact ⟨.tup [.os H.length a n 0 0 1 (rt - lf + 1).toNat c, .v (.int .i64 0)], [rD intD n 0 (wsL l most t (b - t + 1).toNat lf (rt - lf + 1).toNat) S' true], by rw [e2]; rfl, e3, fun b hb => by cases List.mem_singleton.1 hb; rfl, hk2 e a n c S'⟩
  · cases hk

end Go.Proofs.YthkegefjmcipmaaDoor

