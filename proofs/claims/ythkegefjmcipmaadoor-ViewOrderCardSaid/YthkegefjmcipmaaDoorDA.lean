/- View: lines: joined as a handler, and the condition of Draw. -/
import Derived.Test.YthkegefjmcipmaaDoorJB
namespace Go.Sp
open Go.Eng Go.Proofs.YthkegefjmcipmaaDoor

def pcs1 (P : Nat → ByteArray) (cs : List CD) : Prop := ∀ (i : Nat) (c : CD), cs[i]? = some c → P i = fitS c.letters c.width 3
def pcs2 (P : Nat → ByteArray) (cs : List CD) : Prop := ∀ (i : Nat) (c : CD), cs[i]? = some c → P i = many 45 c.width
def pcs3 (P : Nat → ByteArray) (cs : List CD) (row : Int) : Prop := ∀ (i : Nat) (c : CD), cs[i]? = some c → (∀ a q, (a, q) ∈ c.es → row = a.1 → P i = fitS a.2.text c.width a.2.kind ∧ a.2.text.size ≤ 9223372036854775807) ∧ ((∀ a q, (a, q) ∈ c.es → row ≠ a.1) → P i = fitS (ByteArray.mk #[]) c.width 0)

end Go.Sp
namespace Go.Eng
open Go Go.Sp Go.Proofs.YthkegefjmcipmaaDoor

/-- What the function that tells a piece asks. -/
def telC (g : Nat) (caps : List AV) (P : Nat → ByteArray) (cs : List CD) (H : HH) : Prop :=
  match g, caps with
  | 29, [] => pcs1 P cs
  | 30, [] => pcs2 P cs
  | 31, [.ptr k rn 0] => (match nth H k with
    | some ⟨r, .cells [.v (.int .i64 row)] 3, _⟩ => rn = r ∧ pcs3 P cs row
    | _ => False)
  | _, _ => False

/-- Joined pieces, as a handler. -/
def joinH : Handler := fun _ args H K =>
  match args with
  | [.v (.string sep), .v (.string first), .fn (.func 48) [] [.ptr i b0 0, .ptr j b1 0]] =>
    match nth H i, nth H j with
    | some ⟨n0, .cells [.os li _ ln 0 0 1 m _] 53, _⟩, some ⟨n1, .cells [.fn (.func g) [] caps] 64, _⟩ =>
      b0 = n0 ∧ b1 = n1 ∧ ∃ (cs : List CD) (Sl : List Nat) (wr : Option (Nat × TypeId)) (own : Bool) (Sc : List Nat) (P : Nat → ByteArray), nth H li = some ⟨ln, .dl Nat ptrD 0 (cs.map CD.num) Sl wr none, own⟩ ∧ nth H (li + 1) = some (colsB cs Sc) ∧ pcsOk sep first P m cs ∧ telC g caps P cs H ∧
        K (.ret (.v (.string (joinS sep first ((List.range m).map P))))) H
    | _, _ => False
  | _ => False

structure EX where
  i : Nat
  a : Option Addr
  n : Nat
  cap : Nat
  S : List Nat
  rn : Nat

def drwJ (l : List Dw) (most t lf : Int) (n m : Nat) : Nat → TT → HH → LI := fun b T H =>
  bif Nat.beq b 0 then
    match H with
    | b0 :: b1 :: b2 :: b3 :: b4 :: _ =>
      .inv EX (fun x => ((11, .os 5 x.a x.n 0 0 1 (x.i + 2) x.cap) :: (12, .ptr 6 x.rn 0) :: keepT [3, 9, 10] T, [b0, b1, b2, b3, b4, wD strD x.n (linesK l most t n lf m x.i) x.S x.cap 9, ⟨x.rn, .cells [.v (.int .i64 (t + (x.i : Int)))] 3, true⟩]))
        (fun x => x.i ≤ n ∧ x.i + 2 ≤ x.cap) (fun x => n - x.i)
    | _ => .unroll 0
  else .unroll 0

end Go.Eng
namespace Go.Proofs.YthkegefjmcipmaaDoor
open Go Go.Eng Go.Sp
set_option linter.unusedVariables false
set_option linter.unusedSimpArgs false

theorem join_ok : HOk Tryd.prog 26 joinH := HOk.of_read (enters_of (c := body Tryd.f26) Tryd.func26 rfl (by kernel_rfl)) fun rs args H K hk => by
  unfold joinH at hk
  split at hk
  · rename_i sep first i b0 j b1
    split at hk
    · rename_i n0 li a0 ln m c0 o0 n1 g caps o1 h1 h2
      obtain ⟨rfl, rfl, cs, Sl, wr, own, Sc, P, h3, h4, hp, ht, hk⟩ := hk
      have hij : i ≠ j := fun e => by rw [e, h2] at h1; cases h1
      have hil : i ≠ li := fun e => by rw [e, h3] at h1; cases h1
      have hil2 : i ≠ li + 1 := fun e => by rw [e, h4] at h1; cases h1
      have hjl : j ≠ li := fun e => by rw [e, h3] at h2; cases h2
      have hjl2 : j ≠ li + 1 := fun e => by rw [e, h4] at h2; cases h2
      have rol : ∀ (n : Nat) (c : Cont) (o : Bool), LeB ⟨n, c, o⟩ ⟨n, c, false⟩ := fun n c o => ⟨fun k hk => hk, fun h => (by cases h), fun w h => h⟩
      unfold telC at ht
      split at ht
      · refine ⟨[⟨b0, .cells [.os 2 a0 ln 0 0 1 m c0] 53, false⟩, ⟨b1, .cells [.fn (.func 29) [] []] 64, false⟩, ⟨ln, .dl Nat ptrD 0 (cs.map CD.num) Sl none none, false⟩, ro (colsB cs Sc)], [.v (.string sep), .v (.string first), .fn (.func 48) [] [.ptr 0 b0 0, .ptr 1 b1 0]], _, leAt (H := H) [i, j, li, li + 1] (by simp [hij, hil, hil2, hjl, hjl2]) ?_, rfl, rfl, (jn1_lc sep first b0 b1 ln m c0 a0 cs Sl Sc P hp ht).mono fun z H' hz => (by rw [hz]), hk⟩
        simp only [pickH, h1, h2, h3, h4]
        exact ⟨LeB.cells rfl (fun h => (by cases h)), rol .., LeB.dl (fun h => (by cases h)) (.inl rfl), rol .., trivial⟩
      · refine ⟨[⟨b0, .cells [.os 2 a0 ln 0 0 1 m c0] 53, false⟩, ⟨b1, .cells [.fn (.func 30) [] []] 64, false⟩, ⟨ln, .dl Nat ptrD 0 (cs.map CD.num) Sl none none, false⟩, ro (colsB cs Sc)], [.v (.string sep), .v (.string first), .fn (.func 48) [] [.ptr 0 b0 0, .ptr 1 b1 0]], _, leAt (H := H) [i, j, li, li + 1] (by simp [hij, hil, hil2, hjl, hjl2]) ?_, rfl, rfl, (jn2_lc sep first b0 b1 ln m c0 a0 cs Sl Sc P hp ht).mono fun z H' hz => (by rw [hz]), hk⟩
        simp only [pickH, h1, h2, h3, h4]
        exact ⟨LeB.cells rfl (fun h => (by cases h)), rol .., LeB.dl (fun h => (by cases h)) (.inl rfl), rol .., trivial⟩
      · rename_i k rn
        split at ht
        · rename_i r row o5 h5
          obtain ⟨rfl, ht⟩ := ht
          have hik : i ≠ k := fun e => by rw [e, h5] at h1; cases h1
          have hjk : j ≠ k := fun e => by rw [e, h5] at h2; cases h2
          have hlk : li ≠ k := fun e => by rw [e, h5] at h3; cases h3
          have hlk2 : li + 1 ≠ k := fun e => by rw [e, h5] at h4; cases h4
          refine ⟨[⟨b0, .cells [.os 2 a0 ln 0 0 1 m c0] 53, false⟩, ⟨b1, .cells [.fn (.func 31) [] [.ptr 4 rn 0]] 64, false⟩, ⟨ln, .dl Nat ptrD 0 (cs.map CD.num) Sl none none, false⟩, ro (colsB cs Sc), ⟨rn, .cells [.v (.int .i64 row)] 3, false⟩], [.v (.string sep), .v (.string first), .fn (.func 48) [] [.ptr 0 b0 0, .ptr 1 b1 0]], _, leAt (H := H) [i, j, li, li + 1, k] (by simp [hij, hil, hil2, hjl, hjl2, hik, hjk, hlk, hlk2]) ?_, rfl, rfl, (jn3_lc sep first b0 b1 ln m c0 rn row a0 cs Sl Sc P hp ht).mono fun z H' hz => (by rw [hz]), hk⟩
          simp only [pickH, h1, h2, h3, h4, h5]
          exact ⟨LeB.cells rfl (fun h => (by cases h)), LeB.cells rfl (fun h => (by cases h)), LeB.dl (fun h => (by cases h)) (.inl rfl), rol .., rol .., trivial⟩
        · exact ht.elim
      · exact ht.elim
    · exact hk.elim
  · exact hk.elim

def tbD0 : Tbl := (23, .pure chkH) :: (24, .gen colsHd) :: (25, .gen (tabH GT itoaF)) :: (26, .gen joinH) :: (14, .pre fitH) :: (27, .pre repF) :: (4294900009, .dt ByteArray strD) :: (4294967294, .ext mergeFlag) :: []

theorem tbD0_ok : TblOk Tryd.prog tbD0 := ⟨chk_ok, cols_ok, itoa_h, join_ok, fit_ok, rep_ok, strD_ok, flag_ok, trivial⟩


def eacI : Handler := inlH tab tbD0 noinv 2 Tryd.f28 2

set_option maxRecDepth 100000 in
theorem eac_ok : HOk Tryd.prog 28 eacI :=
  inl_ok (tbl := tbD0) tab_ok tbD0_ok mixed noinv 2 _ 2 Tryd.func28 rfl Tryd.ntmps28 (by decide) (by kernel_rfl) (Nat.le_of_ble_eq_true rfl)


def tbD1 : Tbl := (28, .gen eacI) :: tbD0

theorem tbD1_ok : TblOk Tryd.prog tbD1 := ⟨eac_ok, tbD0_ok⟩


set_option maxRecDepth 100000 in
theorem drw_vc (o_ : Obj) (t lf b rt : Int) (l : List Dw) (a : Option Addr) (n o cap : Nat) (S : List Nat) (most : Int) {R : AV → HH → Prop} (h : (∀ (n1 : Nat), n1 = n1 ∧ br (badV t lf b rt most != (0 : Int)) (R (AV.tup [AV.v (Value.slice none (0 : Nat) (0 : Nat)), AV.v (Value.int IntKind.i64 (badV t lf b rt most))]) [Blk.mk GT (Cont.obj o_) false, Blk.mk n (Cont.dl Dw dwD o l S none none) false, Blk.mk n1 (Cont.cells [AV.v (Value.int IntKind.i64 t), AV.v (Value.int IntKind.i64 lf), AV.v (Value.int IntKind.i64 b), AV.v (Value.int IntKind.i64 rt)] (23 : Nat)) true]) (n1 = n1 ∧ ∃ (l_1 : List Dw), ∃ (S_1 : List Nat), ∃ (wr : Option (Nat × TypeId)), ∃ (w : Bool), some (Blk.mk n (Cont.dl Dw dwD o l S none none) false) = some (Blk.mk n (Cont.dl Dw dwD o l_1 S_1 wr none) w) ∧ l.length = l_1.length ∧ l_1.length ≤ (1048576 : Nat) ∧ badV t lf b rt most = (0 : Int) ∧ ∀ (a : Option Addr) (n7 n8 : Nat) (Sl : List Nat) (cs : List CD) (Sc : List Nat), colsIs l_1 t b lf (fun (j : Nat) => colW l_1 most t (b - t + (1 : Int)).toNat (lf + (↑j : Int))) cs (rt - lf + (1 : Int)).toNat → n1 = n1 ∧ GT = GT ∧ tabOk o_ ∧ ((0 : Int) ≤ b ∧ b ≤ (9223372036854775807 : Int)) ∧ ((0 : Int) ≤ (↑(numL b).size : Int) ∧ (1 : Nat) ≤ (1 : Nat) ∧ (↑(numL b).size : Int) ≤ (140737488355328 : Int)) ∧ ∀ (n13 n14 : Nat), n13 = n13 ∧ n14 = n14 ∧ ∃ (cs_1 : List CD), ∃ (Sl_1 : List Nat), ∃ (wr : Option (Nat × TypeId)), ∃ (own : Bool), ∃ (Sc_1 : List Nat), ∃ (P : Nat → ByteArray), some (Blk.mk n7 (Cont.dl Nat ptrD (0 : Nat) (List.map CD.num cs) Sl none none) true) = some (Blk.mk n7 (Cont.dl Nat ptrD (0 : Nat) (List.map CD.num cs_1) Sl_1 wr none) own) ∧ some (Blk.mk (0 : Nat) (Cont.res (List CD × List Nat) (cs, Sc) (fun (x : List CD × List Nat) => x.snd) (packI colsC)) true) = some (Blk.mk (0 : Nat) (Cont.res (List CD × List Nat) (cs_1, Sc_1) (fun (x : List CD × List Nat) => x.snd) (packI colsC)) true) ∧ pcsOk (ByteArray.mk #[(124 : UInt8)]) (mkS (Lib.repeatL (ByteArray.mk #[(32 : UInt8)]).data.toList (↑(numL b).size : Int).toNat)) P (rt - lf + (1 : Int)).toNat cs_1 ∧ (∀ (n21 : Nat) (c : CD), cs_1[n21]? = some c → P n21 = fitS c.letters c.width (3 : Int)) ∧ ((0 : Int) ≤ (↑(numL b).size : Int) ∧ (1 : Nat) ≤ (1 : Nat) ∧ (↑(numL b).size : Int) ≤ (140737488355328 : Int)) ∧ ∀ (n21 n22 : Nat), n21 = n21 ∧ n22 = n22 ∧ ∃ (cs_2 : List CD), ∃ (Sl_2 : List Nat), ∃ (wr : Option (Nat × TypeId)), ∃ (own : Bool), ∃ (Sc_2 : List Nat), ∃ (P_1 : Nat → ByteArray), some (Blk.mk n7 (Cont.dl Nat ptrD (0 : Nat) (List.map CD.num cs) Sl none none) true) = some (Blk.mk n7 (Cont.dl Nat ptrD (0 : Nat) (List.map CD.num cs_2) Sl_2 wr none) own) ∧ some (Blk.mk (0 : Nat) (Cont.res (List CD × List Nat) (cs, Sc) (fun (x : List CD × List Nat) => x.snd) (packI colsC)) true) = some (Blk.mk (0 : Nat) (Cont.res (List CD × List Nat) (cs_2, Sc_2) (fun (x : List CD × List Nat) => x.snd) (packI colsC)) true) ∧ pcsOk (ByteArray.mk #[(43 : UInt8)]) (mkS (Lib.repeatL (ByteArray.mk #[(45 : UInt8)]).data.toList (↑(numL b).size : Int).toNat)) P_1 (rt - lf + (1 : Int)).toNat cs_2 ∧ (∀ (n29 : Nat) (c : CD), cs_2[n29]? = some c → P_1 n29 = many (45 : Int) c.width) ∧ ∀ (n29 : Nat), n1 = n1 ∧ ∀ (n30 : Nat), n30 = n30 ∧ (∃ (x : EX), (x.i ≤ (b - t + (1 : Int)).toNat ∧ x.i + (2 : Nat) ≤ x.cap) ∧ ((AV.sl (9 : Nat) n29 (0 : Nat) (1 : Nat) (2 : Nat) (2 : Nat)).den = (AV.os (5 : Nat) x.a x.n (0 : Nat) (0 : Nat) (1 : Nat) (x.i + (2 : Nat)) x.cap).den ∧ (AV.ptr (10 : Nat) n30 (0 : Nat)).den = (AV.ptr (6 : Nat) x.rn (0 : Nat)).den ∧ (AV.ptr (2 : Nat) n1 (0 : Nat)).den = (AV.ptr (2 : Nat) n1 (0 : Nat)).den ∧ (AV.os (3 : Nat) a n7 (0 : Nat) (0 : Nat) (1 : Nat) (rt - lf + (1 : Int)).toNat n8).den = (AV.os (3 : Nat) a n7 (0 : Nat) (0 : Nat) (1 : Nat) (rt - lf + (1 : Int)).toNat n8).den ∧ (AV.v (Value.int IntKind.i64 (↑(numL b).size : Int))).den = (AV.v (Value.int IntKind.i64 (↑(numL b).size : Int))).den ∧ True) ∧ LeH [Blk.mk GT (Cont.obj o_) false, Blk.mk n (Cont.dl Dw dwD o l S none none) false, Blk.mk n1 (Cont.cells [AV.v (Value.int IntKind.i64 t), AV.v (Value.int IntKind.i64 lf), AV.v (Value.int IntKind.i64 b), AV.v (Value.int IntKind.i64 rt)] (23 : Nat)) true, Blk.mk n7 (Cont.dl Nat ptrD (0 : Nat) (List.map CD.num cs) Sl none none) true, Blk.mk (0 : Nat) (Cont.res (List CD × List Nat) (cs, Sc) (fun (x : List CD × List Nat) => x.snd) (packI colsC)) true, Blk.mk n13 (Cont.cells [AV.os (3 : Nat) a n7 (0 : Nat) (0 : Nat) (1 : Nat) (rt - lf + (1 : Int)).toNat n8] (53 : Nat)) true, Blk.mk n14 (Cont.cells [AV.fn (Fn.func (29 : Nat)) [] []] (64 : Nat)) true, Blk.mk n21 (Cont.cells [AV.os (3 : Nat) a n7 (0 : Nat) (0 : Nat) (1 : Nat) (rt - lf + (1 : Int)).toNat n8] (53 : Nat)) true, Blk.mk n22 (Cont.cells [AV.fn (Fn.func (30 : Nat)) [] []] (64 : Nat)) true, Blk.mk n29 (Cont.cells [AV.v (Value.string (joinS (ByteArray.mk #[(124 : UInt8)]) (mkS (Lib.repeatL (ByteArray.mk #[(32 : UInt8)]).data.toList (↑(numL b).size : Int).toNat)) (List.map P (List.range (rt - lf + (1 : Int)).toNat)))), AV.v (Value.string (joinS (ByteArray.mk #[(43 : UInt8)]) (mkS (Lib.repeatL (ByteArray.mk #[(45 : UInt8)]).data.toList (↑(numL b).size : Int).toNat)) (List.map P_1 (List.range (rt - lf + (1 : Int)).toNat))))] (9 : Nat)) true, Blk.mk n30 (Cont.cells [AV.v (Value.int IntKind.i64 t)] (3 : Nat)) true] [Blk.mk GT (Cont.obj o_) false, Blk.mk n (Cont.dl Dw dwD o l S none none) false, Blk.mk n1 (Cont.cells [AV.v (Value.int IntKind.i64 t), AV.v (Value.int IntKind.i64 lf), AV.v (Value.int IntKind.i64 b), AV.v (Value.int IntKind.i64 rt)] (23 : Nat)) true, Blk.mk n7 (Cont.dl Nat ptrD (0 : Nat) (List.map CD.num cs) Sl none none) true, Blk.mk (0 : Nat) (Cont.res (List CD × List Nat) (cs, Sc) (fun (x : List CD × List Nat) => x.snd) (packI colsC)) true, Blk.mk x.n (Cont.dl ByteArray strD (0 : Nat) (linesK l most t (b - t + (1 : Int)).toNat lf (rt - lf + (1 : Int)).toNat x.i) x.S (some (x.cap, (9 : TypeId))) none) true, Blk.mk x.rn (Cont.cells [AV.v (Value.int IntKind.i64 (t + (↑x.i : Int)))] (3 : Nat)) true]) ∧ ∀ (x : EX), x.i ≤ (b - t + (1 : Int)).toNat ∧ x.i + (2 : Nat) ≤ x.cap → x.rn = x.rn ∧ n1 = n1 ∧ br (decide (t + (↑x.i : Int) ≤ b)) (x.rn = x.rn ∧ GT = GT ∧ tabOk o_ ∧ ((0 : Int) ≤ t + (↑x.i : Int) ∧ t + (↑x.i : Int) ≤ (9223372036854775807 : Int)) ∧ ((numL (t + (↑x.i : Int))).size ≤ (9223372036854775807 : Nat) ∧ (-9223372036854775808 : Int) ≤ (↑(numL b).size : Int) ∧ (↑(numL b).size : Int) ≤ (140737488351232 : Int)) ∧ ∀ (n33 n34 : Nat), n33 = n33 ∧ n34 = n34 ∧ ∃ (cs_3 : List CD), ∃ (Sl_3 : List Nat), ∃ (wr : Option (Nat × TypeId)), ∃ (own : Bool), ∃ (Sc_3 : List Nat), ∃ (P : Nat → ByteArray), some (Blk.mk n7 (Cont.dl Nat ptrD (0 : Nat) (List.map CD.num cs) Sl none none) true) = some (Blk.mk n7 (Cont.dl Nat ptrD (0 : Nat) (List.map CD.num cs_3) Sl_3 wr none) own) ∧ some (Blk.mk (0 : Nat) (Cont.res (List CD × List Nat) (cs, Sc) (fun (x : List CD × List Nat) => x.snd) (packI colsC)) true) = some (Blk.mk (0 : Nat) (Cont.res (List CD × List Nat) (cs_3, Sc_3) (fun (x : List CD × List Nat) => x.snd) (packI colsC)) true) ∧ pcsOk (ByteArray.mk #[(124 : UInt8)]) (fitS (numL (t + (↑x.i : Int))) (↑(numL b).size : Int) (1 : Int)) P (rt - lf + (1 : Int)).toNat cs_3 ∧ (x.rn = x.rn ∧ ∀ (n41 : Nat) (c : CD), cs_3[n41]? = some c → (∀ (a : Int × Dw) (n45 : Nat), (a, n45) ∈ c.es → t + (↑x.i : Int) = a.fst → P n41 = fitS a.snd.text c.width a.snd.kind ∧ a.snd.text.size ≤ (9223372036854775807 : Nat)) ∧ ((∀ (a : Int × Dw) (q : Nat), (a, q) ∈ c.es → t + (↑x.i : Int) ≠ a.fst) → P n41 = fitS (ByteArray.mk #[]) c.width (0 : Int))) ∧ ∀ (n41 : Nat), n41 = n41 ∧ x.n = x.n ∧ (0 : Nat) = (0 : Nat) ∧ (0 : Nat) = (0 : Nat) ∧ x.i + (2 : Nat) ≤ (linesK l most t (b - t + (1 : Int)).toNat lf (rt - lf + (1 : Int)).toNat x.i).length ∧ x.cap ≤ x.cap ∧ (x.i + (2 : Nat) = (0 : Nat) → x.cap = (0 : Nat) ∨ x.a = some (Addr.mk x.n (0 : Nat) none)) ∧ x.i + (2 : Nat) ≤ x.cap ∧ (x.i + (2 : Nat) + (1 : Nat) ≤ (9223372036854775807 : Nat) ∧ (x.i + (2 : Nat) + (1 : Nat) + (x.i + (2 : Nat) + (1 : Nat)) / (4 : Nat) + (192 : Nat)) * (16 : Nat) ≤ (281474976710656 : Nat)) ∧ ∀ (a' : Option Addr) (n43 n44 : Nat) (S' : List Nat), x.i + (2 : Nat) + (1 : Nat) ≤ n44 → emptyOk a' n43 (x.i + (2 : Nat) + (1 : Nat)) n44 → x.rn = x.rn ∧ ∀ (n48 : Nat), n48 = n48 ∧ n48 = n48 ∧ n48 = n48 ∧ ∃ (x' : EX), (x'.i ≤ (b - t + (1 : Int)).toNat ∧ x'.i + (2 : Nat) ≤ x'.cap) ∧ (b - t + (1 : Int)).toNat - x'.i < (b - t + (1 : Int)).toNat - x.i ∧ ((AV.os (5 : Nat) a' n43 (0 : Nat) (0 : Nat) (1 : Nat) (x.i + (2 : Nat) + (1 : Nat)) n44).den = (AV.os (5 : Nat) x'.a x'.n (0 : Nat) (0 : Nat) (1 : Nat) (x'.i + (2 : Nat)) x'.cap).den ∧ (AV.ptr (10 : Nat) n48 (0 : Nat)).den = (AV.ptr (6 : Nat) x'.rn (0 : Nat)).den ∧ (AV.ptr (2 : Nat) n1 (0 : Nat)).den = (AV.ptr (2 : Nat) n1 (0 : Nat)).den ∧ (AV.os (3 : Nat) a n7 (0 : Nat) (0 : Nat) (1 : Nat) (rt - lf + (1 : Int)).toNat n8).den = (AV.os (3 : Nat) a n7 (0 : Nat) (0 : Nat) (1 : Nat) (rt - lf + (1 : Int)).toNat n8).den ∧ (AV.v (Value.int IntKind.i64 (↑(numL b).size : Int))).den = (AV.v (Value.int IntKind.i64 (↑(numL b).size : Int))).den ∧ True) ∧ LeH [Blk.mk GT (Cont.obj o_) false, Blk.mk n (Cont.dl Dw dwD o l S none none) false, Blk.mk n1 (Cont.cells [AV.v (Value.int IntKind.i64 t), AV.v (Value.int IntKind.i64 lf), AV.v (Value.int IntKind.i64 b), AV.v (Value.int IntKind.i64 rt)] (23 : Nat)) true, Blk.mk n7 (Cont.dl Nat ptrD (0 : Nat) (List.map CD.num cs) Sl none none) true, Blk.mk (0 : Nat) (Cont.res (List CD × List Nat) (cs, Sc) (fun (x : List CD × List Nat) => x.snd) (packI colsC)) true, Blk.mk n43 (Cont.dl ByteArray strD (0 : Nat) (List.take (x.i + (2 : Nat)) (linesK l most t (b - t + (1 : Int)).toNat lf (rt - lf + (1 : Int)).toNat x.i) ++ [joinS (ByteArray.mk #[(124 : UInt8)]) (fitS (numL (t + (↑x.i : Int))) (↑(numL b).size : Int) (1 : Int)) (List.map P (List.range (rt - lf + (1 : Int)).toNat))]) S' (some (n44, (9 : Nat))) none) true, Blk.mk x.rn (Cont.cells [AV.v (Value.int IntKind.i64 (t + (↑x.i : Int)))] (3 : Nat)) true, Blk.mk n33 (Cont.cells [AV.os (3 : Nat) a n7 (0 : Nat) (0 : Nat) (1 : Nat) (rt - lf + (1 : Int)).toNat n8] (53 : Nat)) true, Blk.mk n34 (Cont.cells [AV.fn (Fn.func (31 : Nat)) [] [AV.ptr (6 : Nat) x.rn (0 : Nat)]] (64 : Nat)) true, Blk.mk n41 (Cont.cells [AV.v (Value.string (joinS (ByteArray.mk #[(124 : UInt8)]) (fitS (numL (t + (↑x.i : Int))) (↑(numL b).size : Int) (1 : Int)) (List.map P (List.range (rt - lf + (1 : Int)).toNat))))] (9 : Nat)) true, Blk.mk n48 (Cont.cells [AV.v (Value.int IntKind.i64 (IntKind.i64.wrap (t + (↑x.i : Int) + (1 : Int))))] (3 : Nat)) true] [Blk.mk GT (Cont.obj o_) false, Blk.mk n (Cont.dl Dw dwD o l S none none) false, Blk.mk n1 (Cont.cells [AV.v (Value.int IntKind.i64 t), AV.v (Value.int IntKind.i64 lf), AV.v (Value.int IntKind.i64 b), AV.v (Value.int IntKind.i64 rt)] (23 : Nat)) true, Blk.mk n7 (Cont.dl Nat ptrD (0 : Nat) (List.map CD.num cs) Sl none none) true, Blk.mk (0 : Nat) (Cont.res (List CD × List Nat) (cs, Sc) (fun (x : List CD × List Nat) => x.snd) (packI colsC)) true, Blk.mk x'.n (Cont.dl ByteArray strD (0 : Nat) (linesK l most t (b - t + (1 : Int)).toNat lf (rt - lf + (1 : Int)).toNat x'.i) x'.S (some (x'.cap, (9 : TypeId))) none) true, Blk.mk x'.rn (Cont.cells [AV.v (Value.int IntKind.i64 (t + (↑x'.i : Int)))] (3 : Nat)) true]) (R (AV.tup [AV.os (5 : Nat) x.a x.n (0 : Nat) (0 : Nat) (1 : Nat) (x.i + (2 : Nat)) x.cap, AV.v (Value.int IntKind.i64 (0 : Int))]) [Blk.mk GT (Cont.obj o_) false, Blk.mk n (Cont.dl Dw dwD o l S none none) false, Blk.mk n1 (Cont.cells [AV.v (Value.int IntKind.i64 t), AV.v (Value.int IntKind.i64 lf), AV.v (Value.int IntKind.i64 b), AV.v (Value.int IntKind.i64 rt)] (23 : Nat)) true, Blk.mk n7 (Cont.dl Nat ptrD (0 : Nat) (List.map CD.num cs) Sl none none) true, Blk.mk (0 : Nat) (Cont.res (List CD × List Nat) (cs, Sc) (fun (x : List CD × List Nat) => x.snd) (packI colsC)) true, Blk.mk x.n (Cont.dl ByteArray strD (0 : Nat) (linesK l most t (b - t + (1 : Int)).toNat lf (rt - lf + (1 : Int)).toNat x.i) x.S (some (x.cap, (9 : TypeId))) none) true, Blk.mk x.rn (Cont.cells [AV.v (Value.int IntKind.i64 (t + (↑x.i : Int)))] (3 : Nat)) true])))) : LC Tryd.prog 11 [.agg [.v (.int .i64 t), .v (.int .i64 lf), .v (.int .i64 b), .v (.int .i64 rt)], .os 1 a n o 0 4 l.length cap, .v (.int .i64 most)] [tB GT o_, rD dwD n o l S false] R :=
  lc_of_exec (tbl := tbD1) tab_ok tbD1_ok mixed ((drwJ l most t lf (b - t + 1).toNat (rt - lf + 1).toNat)) 2 _ Tryd.func11 rfl Tryd.ntmps11 (by decide) (by kernel_rfl) (Nat.le_of_ble_eq_true rfl) (@Eq.mpr (execN tab tbD1 ((drwJ l most t lf (b - t + 1).toNat (rt - lf + 1).toNat)) 2 Tryd.f11.ntmps [] none 0 (body Tryd.f11) (argsT [.agg [.v (.int .i64 t), .v (.int .i64 lf), .v (.int .i64 b), .v (.int .i64 rt)], .os 1 a n o 0 4 l.length cap, .v (.int .i64 most)] 0) [tB GT o_, rD dwD n o l S false] (post Tryd.f11 tab (retK R))) _ (by kernel_rfl) h)


end Go.Proofs.YthkegefjmcipmaaDoor

namespace Go.Eng
open Go Go.Sp Go.Proofs.YthkegefjmcipmaaDoor

theorem rep32' (k : Nat) : mkS (Lib.repeatL [32] k) = many 32 (k : Int) := rep32 (k : Int)
theorem rep45' (k : Nat) : mkS (Lib.repeatL [45] k) = many 45 (k : Int) := rep45 (k : Int)

theorem cols_pcs {l : List Dw} {most t b lf : Int} {N M : Nat} {cs : List CD} (hc : colsIs l t b lf (fun j => colW l most t N (lf + (j : Int))) cs M) (hm : 1 ≤ most ∧ most ≤ 60) (h0 : 0 < M) (h1 : M ≤ 1048576) {sep first : ByteArray} {P : Nat → ByteArray} (hs : sep.size = 1) (hf : first.size ≤ 1048576) (hP : ∀ i, (P i).size ≤ 63) : pcsOk sep first P M cs :=
  ⟨hs, hf, h1, h0, hc.len, fun i c hi => by rw [hc.ltr i c hi]; exact strL_size _, fun i c hi => by rw [hc.wde i c hi]; exact colW_b l most t N _ hm, fun i _ => hP i⟩

theorem cols_pcs3 {l : List Dw} {most t b lf : Int} {N M : Nat} {cs : List CD} (hc : colsIs l t b lf (fun j => colW l most t N (lf + (j : Int))) cs M) (hs : ∀ d ∈ l, d.text.size ≤ 9223372036854775807) {row : Int} (hr : t ≤ row ∧ row ≤ b) :
    pcs3 (fun (j : Nat) => fitS (atD l row (lf + (j : Int))).text (colW l most t N (lf + (j : Int))) (atD l row (lf + (j : Int))).kind) cs row := fun i c hi => by
  have he := hc.ent i c hi
  have hw := hc.wde i c hi
  refine ⟨fun a q ha e => ?_, fun hno => ?_⟩
  · obtain ⟨v1, _, _⟩ := he.val a q ha
    subst e
    exact ⟨by show fitS _ _ _ = _; rw [hw, v1], by rw [v1]; exact atD_size hs _ _⟩
  · show fitS _ _ _ = _
    rcases atD_in l row (lf + (i : Int)) with h | ⟨_, h⟩
    · obtain ⟨g1, g2⟩ := atD_place l row (lf + (i : Int))
      obtain ⟨a, q, ha, e⟩ := he.all _ h g2 (by omega) (by omega)
      exact absurd (e.trans g1).symm (hno a q ha)
    · rw [h, hw]

end Go.Eng
namespace Go.Proofs.YthkegefjmcipmaaDoor
open Go Go.Eng Go.Sp
set_option linter.unusedVariables false
set_option linter.unusedSimpArgs false

set_option maxHeartbeats 4000000 in
theorem drw_lc (o_ : Obj) (ho : tabOk o_) (t lf b rt : Int) (l : List Dw) (a : Option Addr) (n o cap : Nat) (S : List Nat) (most : Int) (hl : l.length ≤ 1048576) (hs : ∀ d ∈ l, d.text.size ≤ 9223372036854775807) :
    LC Tryd.prog 11 [.agg [.v (.int .i64 t), .v (.int .i64 lf), .v (.int .i64 b), .v (.int .i64 rt)], .os 1 a n o 0 4 l.length cap, .v (.int .i64 most)] [tB GT o_, rD dwD n o l S false] (fun z H' =>
      (badV t lf b rt most ≠ 0 ∧ z = .tup [.v (.slice none 0 0), .v (.int .i64 (badV t lf b rt most))]) ∨
      (badV t lf b rt most = 0 ∧ ∃ (a : Option Addr) (n c : Nat) (S' : List Nat), z.den = (AV.tup [.os 0 a n 0 0 1 ((b - t + 1).toNat + 2) c, .v (.int .i64 0)]).den ∧ LeH H' [rD strD n 0 (linesL l most t (b - t + 1).toNat lf (rt - lf + 1).toNat) S' true])) :=
  drw_vc o_ t lf b rt l a n o cap S most (by
    simp only [true_and, and_true, Int.toNat_natCast, Nat.zero_add, Nat.le_refl]
    intro n1
    refine br_intro (fun h => .inl (by simpa using h)) (fun h => ?_)
    have h0 : badV t lf b rt most = 0 := by simpa using h
    obtain ⟨g1, g2, g3, g4⟩ := badV_zero h0
    obtain ⟨r1, r2, r3, r4, r5, r6⟩ := okR_b g1
    have hb : t + (((b - t + 1).toNat : Nat) : Int) - 1 = b := by omega
    have hz : (numL b).size ≤ 19 := num_size 18 (by omega) (by omega)
    have hm : 1 ≤ most ∧ most ≤ 60 := ⟨g2, g3⟩
    have mp : 0 < (rt - lf + 1).toNat := by omega
    have ml : (rt - lf + 1).toNat ≤ 1048576 := by omega
    have s1 : (mkS (Lib.repeatL [32] (numL b).size)).size ≤ 1048576 := by rw [rep32', size_many]; omega
    have s2 : (mkS (Lib.repeatL [45] (numL b).size)).size ≤ 1048576 := by rw [rep45', size_many]; omega
    refine ⟨l, S, none, false, rfl, rfl, hl, h0, fun a2 n7 n8 Sl cs Sc hc => ⟨ho, by omega, ⟨by omega, by omega⟩, fun n13 n14 => ⟨cs, Sl, none, true, Sc, fun (j : Nat) => fitS (strL (lf + (j : Int))) (colW l most t (b - t + 1).toNat (lf + (j : Int))) 3, rfl, rfl, cols_pcs hc hm mp ml rfl s1 (fun i => fit_small _ _ _ (colW_b l most t _ _ hm).2), fun i c hi => ?_, ⟨by omega, by omega⟩, fun n21 n22 => ⟨cs, Sl, none, true, Sc, fun (j : Nat) => many 45 (colW l most t (b - t + 1).toNat (lf + (j : Int))), rfl, rfl, cols_pcs hc hm mp ml rfl s2 (fun i => ?_), fun i c hi => ?_, fun n29 n30 => ⟨⟨⟨0, none, n29, 2, [n29], n30⟩, ⟨Nat.zero_le _, Nat.le_refl _⟩, ⟨rfl, rfl⟩, ?_⟩, fun x hx => ?_⟩⟩⟩⟩⟩
    · rw [hc.ltr i c hi, hc.wde i c hi]
    · have := (colW_b l most t (b - t + 1).toNat (lf + (i : Int)) hm).2
      rw [size_many]; omega
    · rw [hc.wde i c hi]
    · refine leAt [0, 1, 2, 3, 4, 9, 10] (by decide) ⟨LeB.refl _, LeB.refl _, LeB.refl _, LeB.refl _, LeB.refl _, lines_start ?_ ?_, LeB.cells (by simp) (fun h => h), trivial⟩
      · show joinS sepB (mkS (Lib.repeatL [32] (numL b).size)) _ = _
        rw [rep32']
        unfold headL headPs
        rw [hb]
      · show joinS sepP (mkS (Lib.repeatL [45] (numL b).size)) _ = _
        rw [rep45']
        unfold ruleL rulePs
        rw [hb]
    obtain ⟨x1, x2⟩ := hx
    refine br_intro (fun hle => ?_) (fun hgt => ?_)
    · have hle := of_decide_eq_true hle
      have hz2 : (numL (t + (x.i : Int))).size ≤ 19 := num_size 18 (by omega) (by omega)
      have kl := linesK_len l most t (b - t + 1).toNat lf (rt - lf + 1).toNat x.i
      have s3 := fit_small (numL (t + (x.i : Int))) ((numL b).size : Int) 1 (by omega)
      refine ⟨ho, by omega, ⟨by omega, by omega, by omega⟩, fun n33 n34 => ⟨cs, Sl, none, true, Sc, fun (j : Nat) => fitS (atD l (t + (x.i : Int)) (lf + (j : Int))).text (colW l most t (b - t + 1).toNat (lf + (j : Int))) (atD l (t + (x.i : Int)) (lf + (j : Int))).kind, rfl, rfl, cols_pcs hc hm mp ml rfl (by omega) (fun i => fit_small _ _ _ (colW_b l most t _ _ hm).2), cols_pcs3 hc hs ⟨by omega, hle⟩, fun n41 => ⟨by omega, by omega, x2, ⟨by omega, by omega⟩, fun a' n43 n44 S2 k1 k2 n48 => ⟨⟨x.i + 1, a', n43, n44, S2, n48⟩, ⟨by show x.i + 1 ≤ _; omega, by show x.i + 1 + 2 ≤ n44; omega⟩, by show _ - (x.i + 1) < _; omega, ⟨rfl, rfl⟩, ?_⟩⟩⟩⟩
      have er : linesK l most t (b - t + 1).toNat lf (rt - lf + 1).toNat x.i ++ [joinS (ByteArray.mk #[124]) (fitS (numL (t + (x.i : Int))) ((numL b).size : Int) 1) ((List.range (rt - lf + 1).toNat).map fun (j : Nat) => fitS (atD l (t + (x.i : Int)) (lf + (j : Int))).text (colW l most t (b - t + 1).toNat (lf + (j : Int))) (atD l (t + (x.i : Int)) (lf + (j : Int))).kind)] = linesK l most t (b - t + 1).toNat lf (rt - lf + 1).toNat (x.i + 1) := by
        rw [linesK_one]
        unfold rowL rowPs
        rw [hb]
        rfl
      rw [List.take_of_length_le (by omega), er]
      exact leAt [0, 1, 2, 3, 4, 5, 10] (by decide) ⟨LeB.refl _, LeB.refl _, LeB.refl _, LeB.refl _, LeB.refl _, LeB.refl _, LeB.cells (by rw [w64 (by omega)]; simp only [denL, AV.den]; congr 2; omega) (fun h => h), trivial⟩
    · have hx : x.i = (b - t + 1).toNat := by have := of_decide_eq_false hgt; omega
      refine .inr ⟨h0, x.a, x.n, x.cap, x.S, by rw [hx]; rfl, leAt [5] (by decide) ⟨?_, trivial⟩⟩
      rw [hx, linesK_all]
      exact LeB.dl (fun h => h) (.inl rfl))

end Go.Proofs.YthkegefjmcipmaaDoor

