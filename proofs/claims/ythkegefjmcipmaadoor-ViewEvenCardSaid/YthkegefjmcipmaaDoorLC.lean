/- View: the law of even lines: its condition. -/
import Derived.Test.YthkegefjmcipmaaDoorLA
namespace Go.Eng
open Go Go.Sp Go.Proofs.YthkegefjmcipmaaDoor

/-- Can each byte be printed? -/
def prB (s : ByteArray) : Prop := ∀ i, i < s.size → 32 ≤ byteAt s i ∧ byteAt s i ≤ 126

def evJ (L : List ByteArray) : Nat → TT → HH → LI := fun b T H =>
  bif Nat.beq b 0 then .inv Nat (fun i => ((9, .v (.int .i64 (i : Int))) :: keepT [7] T, H)) (fun i => i ≤ L.length) (fun i => L.length - i)
  else bif Nat.beq b 2 then
    match T.get 9 with
    | some (.v (.int _ i)) => .inv Nat (fun k => ((10, .v (.int .i64 (k : Int))) :: keepT [7, 9] T, H)) (fun k => k ≤ (dAt L strD.z i.toNat).size) (fun k => (dAt L strD.z i.toNat).size - k)
    | _ => .unroll 0
  else .unroll 0

end Go.Eng
namespace Go.Proofs.YthkegefjmcipmaaDoor
open Go Go.Eng Go.Sp
set_option linter.unusedVariables false
set_option linter.unusedSimpArgs false


set_option maxRecDepth 100000 in
theorem ev_vc (o_ : Obj) (t lf b rt : Int) (l : List Dw) (a : Option Addr) (n o cap : Nat) (S : List Nat) (most : Int) {R : AV → Prop} (h : (∀ (n1 : Nat), n1 = n1 ∧ br (decide (areaF t lf b rt > (300 : Int) ∧ areaF t lf b rt ≤ (4096 : Int)) || decide (l.length > (60 : Nat))) (R (AV.v (Value.bool true))) (n1 = n1 ∧ GT = GT ∧ tabOk o_ ∧ ∃ (l_1 : List Dw), ∃ (S_1 : List Nat), ∃ (wr : Option (Nat × TypeId)), ∃ (w : Bool), some (Blk.mk n (Cont.dl Dw dwD o l S none none) false) = some (Blk.mk n (Cont.dl Dw dwD o l_1 S_1 wr none) w) ∧ l.length = l_1.length ∧ l_1.length ≤ (1048576 : Nat) ∧ (∀ (d : Dw), d ∈ l_1 → d.text.size ≤ (9223372036854775807 : Nat)) ∧ (∀ (e : Int), e = badV t lf b rt most → e ≠ (0 : Int) → br (e != (0 : Int)) (R (AV.v (Value.bool true))) (n1 = n1 ∧ n1 = n1 ∧ br ((0 : Int) != IntKind.i64.wrap (IntKind.i64.wrap (b - t) + (3 : Int))) (R (AV.v (Value.bool false))) ((∃ (x : Nat), x ≤ (linesL l most t (b - t + (1 : Int)).toNat lf (rt - lf + (1 : Int)).toNat).length ∧ ((AV.v (Value.int IntKind.i64 (0 : Int))).den = (AV.v (Value.int IntKind.i64 (↑x : Int))).den ∧ (AV.v (Value.slice none (0 : Nat) (0 : Nat))).den = (AV.v (Value.slice none (0 : Nat) (0 : Nat))).den ∧ True) ∧ LeH [Blk.mk GT (Cont.obj o_) false, Blk.mk n (Cont.dl Dw dwD o l S none none) false, Blk.mk n1 (Cont.cells [AV.v (Value.int IntKind.i64 t), AV.v (Value.int IntKind.i64 lf), AV.v (Value.int IntKind.i64 b), AV.v (Value.int IntKind.i64 rt)] (23 : Nat)) true] [Blk.mk GT (Cont.obj o_) false, Blk.mk n (Cont.dl Dw dwD o l S none none) false, Blk.mk n1 (Cont.cells [AV.v (Value.int IntKind.i64 t), AV.v (Value.int IntKind.i64 lf), AV.v (Value.int IntKind.i64 b), AV.v (Value.int IntKind.i64 rt)] (23 : Nat)) true]) ∧ ∀ (n9 : Nat), n9 ≤ (linesL l most t (b - t + (1 : Int)).toNat lf (rt - lf + (1 : Int)).toNat).length → R (AV.v (Value.bool true))))) ∧ (badV t lf b rt most = (0 : Int) → ∀ (a : Option Addr) (n8 n9 : Nat) (S' : List Nat), n1 = n1 ∧ n1 = n1 ∧ br ((↑((b - t + (1 : Int)).toNat + (2 : Nat)) : Int) != IntKind.i64.wrap (IntKind.i64.wrap (b - t) + (3 : Int))) (R (AV.v (Value.bool false))) ((∃ (x : Nat), x ≤ (linesL l most t (b - t + (1 : Int)).toNat lf (rt - lf + (1 : Int)).toNat).length ∧ ((AV.v (Value.int IntKind.i64 (0 : Int))).den = (AV.v (Value.int IntKind.i64 (↑x : Int))).den ∧ (AV.os (3 : Nat) a n8 (0 : Nat) (0 : Nat) (1 : Nat) ((b - t + (1 : Int)).toNat + (2 : Nat)) n9).den = (AV.os (3 : Nat) a n8 (0 : Nat) (0 : Nat) (1 : Nat) ((b - t + (1 : Int)).toNat + (2 : Nat)) n9).den ∧ True) ∧ LeH [Blk.mk GT (Cont.obj o_) false, Blk.mk n (Cont.dl Dw dwD o l S none none) false, Blk.mk n1 (Cont.cells [AV.v (Value.int IntKind.i64 t), AV.v (Value.int IntKind.i64 lf), AV.v (Value.int IntKind.i64 b), AV.v (Value.int IntKind.i64 rt)] (23 : Nat)) true, Blk.mk n8 (Cont.dl ByteArray strD (0 : Nat) (linesL l_1 most t (b - t + (1 : Int)).toNat lf (rt - lf + (1 : Int)).toNat) S' none none) true] [Blk.mk GT (Cont.obj o_) false, Blk.mk n (Cont.dl Dw dwD o l S none none) false, Blk.mk n1 (Cont.cells [AV.v (Value.int IntKind.i64 t), AV.v (Value.int IntKind.i64 lf), AV.v (Value.int IntKind.i64 b), AV.v (Value.int IntKind.i64 rt)] (23 : Nat)) true, Blk.mk n8 (Cont.dl ByteArray strD (0 : Nat) (linesL l_1 most t (b - t + (1 : Int)).toNat lf (rt - lf + (1 : Int)).toNat) S' none none) true]) ∧ ∀ (n11 : Nat), n11 ≤ (linesL l most t (b - t + (1 : Int)).toNat lf (rt - lf + (1 : Int)).toNat).length → br (decide ((↑n11 : Int) < (↑((b - t + (1 : Int)).toNat + (2 : Nat)) : Int))) (((0 : Int) ≤ (↑n11 : Int) ∧ (↑n11 : Int) < (↑((b - t + (1 : Int)).toNat + (2 : Nat)) : Int)) ∧ n8 = n8 ∧ (0 : Nat) = (0 : Nat) ∧ (0 : Nat) + (↑n11 : Int).toNat < (linesL l_1 most t (b - t + (1 : Int)).toNat lf (rt - lf + (1 : Int)).toNat).length ∧ ((0 : Int) ≤ (0 : Int) ∧ (0 : Int) < (↑((b - t + (1 : Int)).toNat + (2 : Nat)) : Int)) ∧ n8 = n8 ∧ (0 : Nat) = (0 : Nat) ∧ (0 : Nat) < (linesL l_1 most t (b - t + (1 : Int)).toNat lf (rt - lf + (1 : Int)).toNat).length ∧ br ((↑(dAt (linesL l_1 most t (b - t + (1 : Int)).toNat lf (rt - lf + (1 : Int)).toNat) strD.z ((0 : Nat) + (↑n11 : Int).toNat)).size : Int) != (↑(dAt (linesL l_1 most t (b - t + (1 : Int)).toNat lf (rt - lf + (1 : Int)).toNat) strD.z (0 : Nat)).size : Int)) (R (AV.v (Value.bool false))) ((∃ (x : Nat), x ≤ (dAt (linesL l most t (b - t + (1 : Int)).toNat lf (rt - lf + (1 : Int)).toNat) strD.z (↑n11 : Int).toNat).size ∧ ((AV.v (Value.int IntKind.i64 (0 : Int))).den = (AV.v (Value.int IntKind.i64 (↑x : Int))).den ∧ (AV.os (3 : Nat) a n8 (0 : Nat) (0 : Nat) (1 : Nat) ((b - t + (1 : Int)).toNat + (2 : Nat)) n9).den = (AV.os (3 : Nat) a n8 (0 : Nat) (0 : Nat) (1 : Nat) ((b - t + (1 : Int)).toNat + (2 : Nat)) n9).den ∧ (AV.v (Value.int IntKind.i64 (↑n11 : Int))).den = (AV.v (Value.int IntKind.i64 (↑n11 : Int))).den ∧ True) ∧ LeH [Blk.mk GT (Cont.obj o_) false, Blk.mk n (Cont.dl Dw dwD o l S none none) false, Blk.mk n1 (Cont.cells [AV.v (Value.int IntKind.i64 t), AV.v (Value.int IntKind.i64 lf), AV.v (Value.int IntKind.i64 b), AV.v (Value.int IntKind.i64 rt)] (23 : Nat)) true, Blk.mk n8 (Cont.dl ByteArray strD (0 : Nat) (linesL l_1 most t (b - t + (1 : Int)).toNat lf (rt - lf + (1 : Int)).toNat) S' none none) true] [Blk.mk GT (Cont.obj o_) false, Blk.mk n (Cont.dl Dw dwD o l S none none) false, Blk.mk n1 (Cont.cells [AV.v (Value.int IntKind.i64 t), AV.v (Value.int IntKind.i64 lf), AV.v (Value.int IntKind.i64 b), AV.v (Value.int IntKind.i64 rt)] (23 : Nat)) true, Blk.mk n8 (Cont.dl ByteArray strD (0 : Nat) (linesL l_1 most t (b - t + (1 : Int)).toNat lf (rt - lf + (1 : Int)).toNat) S' none none) true]) ∧ ∀ (n13 : Nat), n13 ≤ (dAt (linesL l most t (b - t + (1 : Int)).toNat lf (rt - lf + (1 : Int)).toNat) strD.z (↑n11 : Int).toNat).size → ((0 : Int) ≤ (↑n11 : Int) ∧ (↑n11 : Int) < (↑((b - t + (1 : Int)).toNat + (2 : Nat)) : Int)) ∧ n8 = n8 ∧ (0 : Nat) = (0 : Nat) ∧ (0 : Nat) + (↑n11 : Int).toNat < (linesL l_1 most t (b - t + (1 : Int)).toNat lf (rt - lf + (1 : Int)).toNat).length ∧ br (decide ((↑n13 : Int) < (↑(dAt (linesL l_1 most t (b - t + (1 : Int)).toNat lf (rt - lf + (1 : Int)).toNat) strD.z ((0 : Nat) + (↑n11 : Int).toNat)).size : Int))) (((0 : Int) ≤ (↑n11 : Int) ∧ (↑n11 : Int) < (↑((b - t + (1 : Int)).toNat + (2 : Nat)) : Int)) ∧ n8 = n8 ∧ (0 : Nat) = (0 : Nat) ∧ (0 : Nat) + (↑n11 : Int).toNat < (linesL l_1 most t (b - t + (1 : Int)).toNat lf (rt - lf + (1 : Int)).toNat).length ∧ ((0 : Int) ≤ (↑n13 : Int) ∧ (↑n13 : Int) < (↑(dAt (linesL l_1 most t (b - t + (1 : Int)).toNat lf (rt - lf + (1 : Int)).toNat) strD.z ((0 : Nat) + (↑n11 : Int).toNat)).size : Int)) ∧ br (decide (byteAt (dAt (linesL l_1 most t (b - t + (1 : Int)).toNat lf (rt - lf + (1 : Int)).toNat) strD.z ((0 : Nat) + (↑n11 : Int).toNat)) (↑n13 : Int).toNat < (32 : Int))) (R (AV.v (Value.bool false))) (((0 : Int) ≤ (↑n11 : Int) ∧ (↑n11 : Int) < (↑((b - t + (1 : Int)).toNat + (2 : Nat)) : Int)) ∧ n8 = n8 ∧ (0 : Nat) = (0 : Nat) ∧ (0 : Nat) + (↑n11 : Int).toNat < (linesL l_1 most t (b - t + (1 : Int)).toNat lf (rt - lf + (1 : Int)).toNat).length ∧ ((0 : Int) ≤ (↑n13 : Int) ∧ (↑n13 : Int) < (↑(dAt (linesL l_1 most t (b - t + (1 : Int)).toNat lf (rt - lf + (1 : Int)).toNat) strD.z ((0 : Nat) + (↑n11 : Int).toNat)).size : Int)) ∧ br (decide (byteAt (dAt (linesL l_1 most t (b - t + (1 : Int)).toNat lf (rt - lf + (1 : Int)).toNat) strD.z ((0 : Nat) + (↑n11 : Int).toNat)) (↑n13 : Int).toNat > (126 : Int))) (R (AV.v (Value.bool false))) (∃ (x' : Nat), x' ≤ (dAt (linesL l most t (b - t + (1 : Int)).toNat lf (rt - lf + (1 : Int)).toNat) strD.z (↑n11 : Int).toNat).size ∧ (dAt (linesL l most t (b - t + (1 : Int)).toNat lf (rt - lf + (1 : Int)).toNat) strD.z (↑n11 : Int).toNat).size - x' < (dAt (linesL l most t (b - t + (1 : Int)).toNat lf (rt - lf + (1 : Int)).toNat) strD.z (↑n11 : Int).toNat).size - n13 ∧ ((AV.v (Value.int IntKind.i64 (IntKind.i64.wrap ((↑n13 : Int) + (1 : Int))))).den = (AV.v (Value.int IntKind.i64 (↑x' : Int))).den ∧ (AV.os (3 : Nat) a n8 (0 : Nat) (0 : Nat) (1 : Nat) ((b - t + (1 : Int)).toNat + (2 : Nat)) n9).den = (AV.os (3 : Nat) a n8 (0 : Nat) (0 : Nat) (1 : Nat) ((b - t + (1 : Int)).toNat + (2 : Nat)) n9).den ∧ (AV.v (Value.int IntKind.i64 (↑n11 : Int))).den = (AV.v (Value.int IntKind.i64 (↑n11 : Int))).den ∧ True) ∧ LeH [Blk.mk GT (Cont.obj o_) false, Blk.mk n (Cont.dl Dw dwD o l S none none) false, Blk.mk n1 (Cont.cells [AV.v (Value.int IntKind.i64 t), AV.v (Value.int IntKind.i64 lf), AV.v (Value.int IntKind.i64 b), AV.v (Value.int IntKind.i64 rt)] (23 : Nat)) true, Blk.mk n8 (Cont.dl ByteArray strD (0 : Nat) (linesL l_1 most t (b - t + (1 : Int)).toNat lf (rt - lf + (1 : Int)).toNat) S' none none) true] [Blk.mk GT (Cont.obj o_) false, Blk.mk n (Cont.dl Dw dwD o l S none none) false, Blk.mk n1 (Cont.cells [AV.v (Value.int IntKind.i64 t), AV.v (Value.int IntKind.i64 lf), AV.v (Value.int IntKind.i64 b), AV.v (Value.int IntKind.i64 rt)] (23 : Nat)) true, Blk.mk n8 (Cont.dl ByteArray strD (0 : Nat) (linesL l_1 most t (b - t + (1 : Int)).toNat lf (rt - lf + (1 : Int)).toNat) S' none none) true]))) (∃ (x' : Nat), x' ≤ (linesL l most t (b - t + (1 : Int)).toNat lf (rt - lf + (1 : Int)).toNat).length ∧ (linesL l most t (b - t + (1 : Int)).toNat lf (rt - lf + (1 : Int)).toNat).length - x' < (linesL l most t (b - t + (1 : Int)).toNat lf (rt - lf + (1 : Int)).toNat).length - n11 ∧ ((AV.v (Value.int IntKind.i64 (IntKind.i64.wrap ((↑n11 : Int) + (1 : Int))))).den = (AV.v (Value.int IntKind.i64 (↑x' : Int))).den ∧ (AV.os (3 : Nat) a n8 (0 : Nat) (0 : Nat) (1 : Nat) ((b - t + (1 : Int)).toNat + (2 : Nat)) n9).den = (AV.os (3 : Nat) a n8 (0 : Nat) (0 : Nat) (1 : Nat) ((b - t + (1 : Int)).toNat + (2 : Nat)) n9).den ∧ True) ∧ LeH [Blk.mk GT (Cont.obj o_) false, Blk.mk n (Cont.dl Dw dwD o l S none none) false, Blk.mk n1 (Cont.cells [AV.v (Value.int IntKind.i64 t), AV.v (Value.int IntKind.i64 lf), AV.v (Value.int IntKind.i64 b), AV.v (Value.int IntKind.i64 rt)] (23 : Nat)) true, Blk.mk n8 (Cont.dl ByteArray strD (0 : Nat) (linesL l_1 most t (b - t + (1 : Int)).toNat lf (rt - lf + (1 : Int)).toNat) S' none none) true] [Blk.mk GT (Cont.obj o_) false, Blk.mk n (Cont.dl Dw dwD o l S none none) false, Blk.mk n1 (Cont.cells [AV.v (Value.int IntKind.i64 t), AV.v (Value.int IntKind.i64 lf), AV.v (Value.int IntKind.i64 b), AV.v (Value.int IntKind.i64 rt)] (23 : Nat)) true, Blk.mk n8 (Cont.dl ByteArray strD (0 : Nat) (linesL l_1 most t (b - t + (1 : Int)).toNat lf (rt - lf + (1 : Int)).toNat) S' none none) true]))) (R (AV.v (Value.bool true)))))))) : LC Tryd.prog 5 [.agg [.v (.int .i64 t), .v (.int .i64 lf), .v (.int .i64 b), .v (.int .i64 rt)], .os 1 a n o 0 4 l.length cap, .v (.int .i64 most)] [tB GT o_, rD dwD n o l S false] (fun z_ _ => R z_) :=
  lc_of_exec (tbl := tbLd) tab_ok tbLd_ok mixed ((evJ (linesL l most t (b - t + 1).toNat lf (rt - lf + 1).toNat))) 2 _ Tryd.func5 rfl Tryd.ntmps5 (by decide) (by kernel_rfl) (Nat.le_of_ble_eq_true rfl) (@Eq.mpr (execN tab tbLd ((evJ (linesL l most t (b - t + 1).toNat lf (rt - lf + 1).toNat))) 2 Tryd.f5.ntmps [] none 0 (body Tryd.f5) (argsT [.agg [.v (.int .i64 t), .v (.int .i64 lf), .v (.int .i64 b), .v (.int .i64 rt)], .os 1 a n o 0 4 l.length cap, .v (.int .i64 most)] 0) [tB GT o_, rD dwD n o l S false] (post Tryd.f5 tab (retK (fun z_ _ => R z_)))) _ (by kernel_rfl) h)


end Go.Proofs.YthkegefjmcipmaaDoor
namespace Go.Eng
open Go Go.Sp Go.Proofs.YthkegefjmcipmaaDoor

theorem cl_join {sep : ByteArray} (hs : Cl sep) : ∀ (ps : List ByteArray) {a : ByteArray}, Cl a → (∀ p ∈ ps, Cl p) → Cl (joinS sep a ps)
  | [], _, ha, _ => ha
  | p :: ps, _, ha, h => cl_join hs ps (cl_cat (cl_cat ha hs) (h p (List.mem_cons_self ..))) fun q hq => h q (List.mem_cons_of_mem _ hq)

theorem join_size {sep sep' : ByteArray} (hs : sep.size = sep'.size) : ∀ (ps qs : List ByteArray) {a b : ByteArray}, a.size = b.size → ps.map ByteArray.size = qs.map ByteArray.size → (joinS sep a ps).size = (joinS sep' b qs).size
  | [], [], _, _, h, _ => h
  | [], q :: qs, _, _, _, h => by simp at h
  | p :: ps, [], _, _, _, h => by simp at h
  | p :: ps, q :: qs, a, b, ha, h => by
    simp only [List.map_cons, List.cons.injEq] at h
    refine join_size hs ps qs (a := catS (catS a sep) p) (b := catS (catS b sep') q) ?_ h.2
    rw [size_catS, size_catS, size_catS, size_catS, ha, hs, h.1]

theorem strL_pos {c : Int} (h : 1 ≤ c ∧ c ≤ 16384) : 1 ≤ (strL c).size := by
  have hk : okC c = true := by simp [okC, h]
  unfold strL ltrs
  rw [if_pos hk]
  repeat' split
  all_goals (rw [size_mkI]; simp)

theorem num_pos (n : Int) : 1 ≤ (numL n).size := by
  rw [numL, size_mkS, Lib.decDigits_length]
  by_cases h : n.toNat < 10
  · rw [Lib.nDigits_small h]; exact Nat.le_refl _
  · rw [Lib.nDigits_big h]; omega

theorem lines_even {l : List Dw} {most t : Int} {n : Nat} {lf : Int} {m : Nat} (hm : 1 ≤ most ∧ most ≤ 60) (hc : ∀ j : Nat, j < m → 1 ≤ lf + (j : Int) ∧ lf + (j : Int) ≤ 16384) : ∀ p ∈ linesL l most t n lf m, p.size = (headL l most t n lf m).size ∧ Cl p := by
  have hw : ∀ j : Nat, j < m → 1 ≤ colW l most t n (lf + (j : Int)) := fun j hj => by
    have h1 := strL_pos (hc j hj)
    have h2 := ((colW_le l most t (lf + (j : Int)) _ n).1 (Int.le_refl _)).1
    omega
  have e1 : (headPs l most t n lf m).map ByteArray.size = (List.range m).map fun (j : Nat) => (colW l most t n (lf + (j : Int))).toNat := by
    unfold headPs
    rw [List.map_map]
    refine List.map_congr_left fun j hj => ?_
    have := size_fit (s := strL (lf + (j : Int))) (k := 3) (hw j (List.mem_range.1 hj))
    show (fitS _ _ _).size = _
    omega
  have e2 : (rulePs l most t n lf m).map ByteArray.size = (List.range m).map fun (j : Nat) => (colW l most t n (lf + (j : Int))).toNat := by
    unfold rulePs
    rw [List.map_map]
    exact List.map_congr_left fun j hj => size_many _ _
  have e3 : ∀ row, (rowPs l most t n lf m row).map ByteArray.size = (List.range m).map fun (j : Nat) => (colW l most t n (lf + (j : Int))).toNat := fun row => by
    unfold rowPs
    rw [List.map_map]
    refine List.map_congr_left fun j hj => ?_
    have := size_fit (s := (atD l row (lf + (j : Int))).text) (k := (atD l row (lf + (j : Int))).kind) (hw j (List.mem_range.1 hj))
    show (fitS _ _ _).size = _
    omega
  have hB : Cl sepB := by unfold sepB Cl; decide
  have hP : Cl sepP := by unfold sepP Cl; decide
  intro p hp
  rcases List.mem_cons.1 hp with rfl | hp
  · exact ⟨rfl, cl_join hB _ (cl_many (by decide) _) fun q hq => (by
      obtain ⟨j, _, rfl⟩ := List.mem_map.1 hq
      exact cl_fit _ _ _)⟩
  · rcases List.mem_cons.1 hp with rfl | hp
    · exact ⟨join_size (sep := sepP) (sep' := sepB) rfl _ _ (by rw [size_many, size_many]) (e2.trans e1.symm), cl_join hP _ (cl_many (by decide) _) fun q hq => (by
        obtain ⟨j, _, rfl⟩ := List.mem_map.1 hq
        exact cl_many (by decide) _)⟩
    · obtain ⟨i, _, rfl⟩ := List.mem_map.1 hp
      refine ⟨join_size (sep := sepB) (sep' := sepB) rfl _ _ ?_ ((e3 _).trans e1.symm), cl_join hB _ (cl_fit _ _ _) fun q hq => (by
        obtain ⟨j, _, rfl⟩ := List.mem_map.1 hq
        exact cl_fit _ _ _)⟩
      have h1 := num_pos (t + (n : Int) - 1)
      have := size_fit (s := numL (t + (i : Int))) (k := 1) (w := ((numL (t + (n : Int) - 1)).size : Int)) (by omega)
      rw [size_many]
      omega

theorem cl_byte {s : ByteArray} (h : Cl s) {i : Nat} (hi : i < s.size) : ¬ byteAt s i < 32 ∧ ¬ byteAt s i > 126 := by
  have hl : i < s.data.toList.length := by rw [size_data]; exact hi
  have hb := h _ (List.getElem_mem hl)
  have e : byteAt s i = ((s.data.toList[i]).toNat : Int) := by
    unfold byteAt
    rw [List.getElem?_eq_getElem hl]
    rfl
  rw [e]
  unfold cleanB at hb
  split at hb
  · rename_i hn
    rw [← hb]
    decide
  · rename_i hn
    omega

end Go.Eng
namespace Go.Proofs.YthkegefjmcipmaaDoor
open Go Go.Eng Go.Sp
set_option linter.unusedVariables false
set_option linter.unusedSimpArgs false

set_option maxHeartbeats 1000000 in
theorem ev_lc (o_ : Obj) (ho : tabOk o_) (t lf b rt : Int) (l : List Dw) (a : Option Addr) (n o cap : Nat) (S : List Nat) (most : Int) (hl : l.length ≤ 9223372036854775807) (hs : ∀ d ∈ l, d.text.size ≤ 9223372036854775807) :
    LC Tryd.prog 5 [.agg [.v (.int .i64 t), .v (.int .i64 lf), .v (.int .i64 b), .v (.int .i64 rt)], .os 1 a n o 0 4 l.length cap, .v (.int .i64 most)] [tB GT o_, rD dwD n o l S false] (fun z _ => z = .v (.bool true)) :=
  ev_vc o_ t lf b rt l a n o cap S most (by
    simp only [true_and, and_true, Int.toNat_natCast, Nat.zero_add, Nat.le_refl]
    intro n1
    refine br_intro (fun _ => trivial) (fun hb => ?_)
    have hl2 : l.length ≤ 60 := by
      simp only [Bool.or_eq_false_iff, decide_eq_false_iff_not] at hb
      omega
    refine ⟨ho, l, S, none, false, rfl, rfl, by omega, hs, fun e he h0 => br_intro (fun _ => trivial) (fun h => absurd h (by simpa using h0)), fun h0 a2 n8 n9 S2 => ?_⟩
    obtain ⟨g1, g2, g3, g4⟩ := badV_zero h0
    obtain ⟨r1, r2, r3, r4, r5, r6⟩ := okR_b g1
    have hL := linesL_len l most t (b - t + 1).toNat lf (rt - lf + 1).toNat
    have hev := lines_even (l := l) (most := most) (t := t) (n := (b - t + 1).toNat) (lf := lf) (m := (rt - lf + 1).toNat) ⟨g2, g3⟩ (fun j hj => by omega)
    have hsz : (headL l most t (b - t + 1).toNat lf (rt - lf + 1).toNat).size ≤ 20 + 64 * (rt - lf + 1).toNat := headL_size l most t (b - t + 1).toNat lf (rt - lf + 1).toNat ⟨g2, g3⟩ (num_size 18 (by omega) (by omega))
    have eat : ∀ i, i < (b - t + 1).toNat + 2 → dAt (linesL l most t (b - t + 1).toNat lf (rt - lf + 1).toNat) strD.z i ∈ linesL l most t (b - t + 1).toNat lf (rt - lf + 1).toNat := fun i hi => by
      rw [dAt_lt (by rw [hL]; exact hi)]
      exact List.getElem_mem _
    rw [hL]
    refine br_intro (fun h => absurd h (by rw [w64 (x := b - t) (by omega), w64 (by omega)]; simp; omega)) (fun _ => ⟨⟨0, Nat.zero_le _, rfl, LeH.refl _⟩, fun i hi => br_intro (fun hlt => ?_) (fun _ => trivial)⟩)
    have hlt := of_decide_eq_true hlt
    have hi2 : i < (b - t + 1).toNat + 2 := by omega
    obtain ⟨p1, p2⟩ := hev _ (eat i hi2)
    obtain ⟨q1, _⟩ := hev _ (eat 0 (by omega))
    refine ⟨⟨by omega, hlt⟩, hi2, by omega, by omega, br_intro (fun h => absurd h (by rw [p1, q1]; simp)) (fun _ => ⟨⟨0, Nat.zero_le _, rfl, LeH.refl _⟩, fun k hk => ⟨⟨by omega, hlt⟩, hi2, br_intro (fun hkl => ?_) (fun _ => ⟨i + 1, by omega, by omega, by rw [w64 (by omega)]; rfl, LeH.refl _⟩)⟩⟩)⟩
    have hkl := of_decide_eq_true hkl
    have hk2 : k < (dAt (linesL l most t (b - t + 1).toNat lf (rt - lf + 1).toNat) strD.z i).size := by omega
    obtain ⟨b1, b2⟩ := cl_byte p2 hk2
    refine ⟨⟨by omega, hlt⟩, hi2, ⟨by omega, hkl⟩, br_intro (fun h => absurd (of_decide_eq_true h) b1) (fun _ => ⟨⟨by omega, hlt⟩, hi2, ⟨by omega, hkl⟩, br_intro (fun h => absurd (of_decide_eq_true h) b2) (fun _ => ⟨k + 1, hk2, by omega, by rw [w64 (by omega)]; rfl, LeH.refl _⟩)⟩)⟩)

theorem even_law (o_ : Obj) (ho : tabOk o_) (t lf b rt : Int) (a : Option Addr) (n o len cap : Nat) (g0 g1 : Nat → Int) (g2 : Nat → ByteArray) (g3 : Nat → Int) (S : List Nat) (most : Int) (hlen : len ≤ 9223372036854775807) (hs : ∀ i, i < len → (g2 i).size ≤ 9223372036854775807) :
    LC Tryd.prog 5 [.agg [.v (.int .i64 t), .v (.int .i64 lf), .v (.int .i64 b), .v (.int .i64 rt)], .os 1 a n o 0 4 len cap, .v (.int .i64 most)] [tB GT o_, ⟨n, .lst o len [.ints .i64 g0, .ints .i64 g1, .strs g2, .ints .i64 g3] S none, false⟩] (fun z _ => z = .v (.bool true)) := by
  have h := ev_lc o_ ho t lf b rt (mkDw g0 g1 g2 g3 len) a n o cap S most (by rw [mkDw_len]; exact hlen) (mkDw_small hs)
  rw [mkDw_len] at h
  exact LC.pre h (LeH.of_bs ⟨LeB.refl _, mkDw_le .., trivial⟩) rfl

end Go.Proofs.YthkegefjmcipmaaDoor

