import Derived.Test.YtjnehpljhnlbfaaR1
namespace Go.Sp
open Go Go.Eng Go.Op Go.Proofs.Ytjnehpljhnlbfaa
def selL (p : Nat → Bool) (i : Nat) : List Int := ((List.range i).filter p).map fun (j : Nat) => (j : Int)
theorem selL_len (p : Nat → Bool) (i : Nat) : (selL p i).length ≤ i := by
  unfold selL
  rw [List.length_map]
  exact Nat.le_trans (List.length_filter_le _ _) (by simp)
theorem selL_yes {p : Nat → Bool} {i : Nat} (h : p i = true) : selL p (i + 1) = selL p i ++ [(i : Int)] := by
  unfold selL
  rw [List.range_succ, List.filter_append, List.map_append]
  simp [h]
theorem selL_no {p : Nat → Bool} {i : Nat} (h : p i = false) : selL p (i + 1) = selL p i := by
  unfold selL
  rw [List.range_succ, List.filter_append, List.map_append]
  simp [h]
theorem selL_sorted (p : Nat → Bool) (i : Nat) : (selL p i).Pairwise fun x y => x ≤ y := by
  unfold selL
  rw [List.pairwise_map]
  exact (List.pairwise_lt_range.filter _).imp fun h => by omega
theorem meet_ofR (rs : Nat → RC) (len : Nat) {q : RC} (hq : okQ q = true) : meetL (ofR rs len) q = selL (fun i => okQ (rs i) && mtQ (rs i) q) len := by
  unfold meetL
  rw [if_pos hq]
  refine (sortI_one (l := selL (fun i => okQ (rs i) && mtQ (rs i) q) len) (List.Perm.of_eq ?_) (selL_sorted _ _)).symm
  unfold selL ofR
  rw [List.filter_map, List.map_map, List.filter_filter]
  congr 1
  apply List.filter_congr
  intro i _
  show _ = (mtQ (rs i) q && okQ (rs i))
  exact Bool.and_comm _ _
structure GW where
  i : Nat
  a : Option Addr
  n : Nat
  cap : Nat
  S : List Nat
end Go.Sp
namespace Go.Eng
open Go Go.Sp Go.Op Go.Proofs.Ytjnehpljhnlbfaa
def selJ (p : Nat → Bool) (len : Nat) (ks : List Nat) : Nat → TT → HH → LI := fun b T H =>
  match H with
  | [b0, b1, b2] => .inv GW (fun x => ((7, .v (.int .i64 (x.i : Int))) :: (6, .os 3 x.a x.n 0 0 1 (selL p x.i).length x.cap) :: keepT [0, 3, 4, 5] T, [b0, b1, b2, ⟨x.n, .lst 0 (selL p x.i).length [.ints .i64 (atI (selL p x.i))] x.S (some (x.cap, 3)), true⟩])) (fun x => x.i ≤ len ∧ emptyOk x.a x.n (selL p x.i).length x.cap) (fun x => len - x.i)
  | _ => .unroll 0
end Go.Eng
namespace Go.Proofs.Ytjnehpljhnlbfaa
open Go Go.Eng Go.Sp Go.Op
set_option linter.unusedVariables false
set_option linter.unusedSimpArgs false
def tbOn : Tbl := (4294967294, .ext mergeFlag) :: (11, .pure livesH) :: (10, .gen ofsH) :: (12, .pure pinH) :: (13, .pure ofH) :: (15, .gen stabH) :: (16, .gen meetH) :: (14, .gen sameH) :: (17, .pure pmeetH) :: []
theorem tbOn_ok : TblOk Try.prog tbOn := ⟨flag_ok, lives_ok, ofsH_ok, pin_ok, of_ok, stab_ok, meet_ok, same_ok, pmeet_ok, trivial⟩
set_option maxRecDepth 100000 in
theorem one_vc (a : Option Addr) (n o len cap : Nat) (g0 g1 g2 g3 : Nat → Int) (S : List Nat) (y x : Int) {R : AV → Prop} (h : (∀ (n1 : Nat), ∃ (g0_1 : Nat → Int), ∃ (g1_1 : Nat → Int), ∃ (g2_1 : Nat → Int), ∃ (g3_1 : Nat → Int), ∃ (S_1 : List Nat), ∃ (own : Bool), some (Blk.mk n (Cont.lst o len [Col.ints IntKind.i64 g0, Col.ints IntKind.i64 g1, Col.ints IntKind.i64 g2, Col.ints IntKind.i64 g3] S none) false) = some (Blk.mk n (Cont.lst o len [Col.ints IntKind.i64 g0_1, Col.ints IntKind.i64 g1_1, Col.ints IntKind.i64 g2_1, Col.ints IntKind.i64 g3_1] S_1 none) own) ∧ len ≤ 9223372036854775807 ∧ ∀ (s : SS), ofO s (rcs g0_1 g1_1 g2_1 g3_1) len → ∀ (S' : List Nat), br (decide ((↑len : Int) > (300 : Int))) (R (bT)) ((∃ (x_1 : GW), (x_1.i ≤ len ∧ emptyOk x_1.a x_1.n (selL (fun (i : Nat) => inF (g0 i) (g1 i) (g2 i) (g3 i) y x) x_1.i).length x_1.cap) ∧ ((i6 (0 : Int)).den = (i6 (↑x_1.i : Int)).den ∧ (AV.v (Value.slice none 0 0)).den = (AV.os 3 x_1.a x_1.n 0 0 1 (selL (fun (i : Nat) => inF (g0 i) (g1 i) (g2 i) (g3 i) y x) x_1.i).length x_1.cap).den ∧ (AV.os 0 a n o 0 4 len cap).den = (AV.os 0 a n o 0 4 len cap).den ∧ (AV.ptr 1 n1 0).den = (AV.ptr 1 n1 0).den ∧ (bF).den = (bF).den ∧ (AV.ptr 2 s.n 0).den = (AV.ptr 2 s.n 0).den ∧ True) ∧ LeH [Blk.mk n (Cont.lst o len [Col.ints IntKind.i64 g0, Col.ints IntKind.i64 g1, Col.ints IntKind.i64 g2, Col.ints IntKind.i64 g3] S none) false, Blk.mk n1 (Cont.cells [i6 y, i6 x] 24) true, Blk.mk s.n (Cont.res (SS × List Nat) (s, S') (fun (x : SS × List Nat) => x.snd) (packI setC)) true] [Blk.mk n (Cont.lst o len [Col.ints IntKind.i64 g0, Col.ints IntKind.i64 g1, Col.ints IntKind.i64 g2, Col.ints IntKind.i64 g3] S none) false, Blk.mk n1 (Cont.cells [i6 y, i6 x] 24) true, Blk.mk s.n (Cont.res (SS × List Nat) (s, S') (fun (x : SS × List Nat) => x.snd) (packI setC)) true, Blk.mk x_1.n (Cont.lst 0 (selL (fun (i : Nat) => inF (g0 i) (g1 i) (g2 i) (g3 i) y x) x_1.i).length [Col.ints IntKind.i64 (atI (selL (fun (i : Nat) => inF (g0 i) (g1 i) (g2 i) (g3 i) y x) x_1.i))] x_1.S (some (x_1.cap, 3))) true]) ∧ ∀ (x_1 : GW), x_1.i ≤ len ∧ emptyOk x_1.a x_1.n (selL (fun (i : Nat) => inF (g0 i) (g1 i) (g2 i) (g3 i) y x) x_1.i).length x_1.cap → br (decide ((↑x_1.i : Int) < (↑len : Int))) (((0 : Int) ≤ (↑x_1.i : Int) ∧ (↑x_1.i : Int) < (↑len : Int)) ∧ n = n ∧ o = o ∧ 0 + (↑x_1.i : Int).toNat < len ∧ n1 = n1 ∧ br (inF (g0 (0 + (↑x_1.i : Int).toNat)) (g1 (0 + (↑x_1.i : Int).toNat)) (g2 (0 + (↑x_1.i : Int).toNat)) (g3 (0 + (↑x_1.i : Int).toNat)) y x) (∀ (n13 : Nat), n13 = n13 ∧ x_1.n = x_1.n ∧ 0 = 0 ∧ 0 = 0 ∧ (selL (fun (i : Nat) => inF (g0 i) (g1 i) (g2 i) (g3 i) y x) x_1.i).length ≤ (selL (fun (i : Nat) => inF (g0 i) (g1 i) (g2 i) (g3 i) y x) x_1.i).length ∧ x_1.cap = x_1.cap ∧ ((selL (fun (i : Nat) => inF (g0 i) (g1 i) (g2 i) (g3 i) y x) x_1.i).length = 0 → x_1.cap = 0 ∨ x_1.a = some (Addr.mk x_1.n 0 none)) ∧ ((selL (fun (i : Nat) => inF (g0 i) (g1 i) (g2 i) (g3 i) y x) x_1.i).length + 1 ≤ 9223372036854775807 ∧ ((selL (fun (i : Nat) => inF (g0 i) (g1 i) (g2 i) (g3 i) y x) x_1.i).length + 1 + ((selL (fun (i : Nat) => inF (g0 i) (g1 i) (g2 i) (g3 i) y x) x_1.i).length + 1) / 4 + 192) * 8 ≤ 281474976710656) ∧ ∀ (a' : Option Addr) (n15 n16 : Nat) (S'_1 : List Nat), (selL (fun (i : Nat) => inF (g0 i) (g1 i) (g2 i) (g3 i) y x) x_1.i).length + 1 ≤ n16 → emptyOk a' n15 ((selL (fun (i : Nat) => inF (g0 i) (g1 i) (g2 i) (g3 i) y x) x_1.i).length + 1) n16 → ∃ (x' : GW), (x'.i ≤ len ∧ emptyOk x'.a x'.n (selL (fun (i : Nat) => inF (g0 i) (g1 i) (g2 i) (g3 i) y x) x'.i).length x'.cap) ∧ len - x'.i < len - x_1.i ∧ ((i6 (IntKind.i64.wrap ((↑x_1.i : Int) + (1 : Int)))).den = (i6 (↑x'.i : Int)).den ∧ (AV.os 3 a' n15 0 0 1 ((selL (fun (i : Nat) => inF (g0 i) (g1 i) (g2 i) (g3 i) y x) x_1.i).length + 1) n16).den = (AV.os 3 x'.a x'.n 0 0 1 (selL (fun (i : Nat) => inF (g0 i) (g1 i) (g2 i) (g3 i) y x) x'.i).length x'.cap).den ∧ (AV.os 0 a n o 0 4 len cap).den = (AV.os 0 a n o 0 4 len cap).den ∧ (AV.ptr 1 n1 0).den = (AV.ptr 1 n1 0).den ∧ (bF).den = (bF).den ∧ (AV.ptr 2 s.n 0).den = (AV.ptr 2 s.n 0).den ∧ True) ∧ LeH [Blk.mk n (Cont.lst o len [Col.ints IntKind.i64 g0, Col.ints IntKind.i64 g1, Col.ints IntKind.i64 g2, Col.ints IntKind.i64 g3] S none) false, Blk.mk n1 (Cont.cells [i6 y, i6 x] 24) true, Blk.mk s.n (Cont.res (SS × List Nat) (s, S') (fun (x : SS × List Nat) => x.snd) (packI setC)) true, Blk.mk n15 (Cont.lst 0 ((selL (fun (i : Nat) => inF (g0 i) (g1 i) (g2 i) (g3 i) y x) x_1.i).length + 1) [Col.ints IntKind.i64 fun (i : Nat) => if i < (selL (fun (i : Nat) => inF (g0 i) (g1 i) (g2 i) (g3 i) y x) x_1.i).length then atI (selL (fun (i : Nat) => inF (g0 i) (g1 i) (g2 i) (g3 i) y x) x_1.i) i else if i < (selL (fun (i : Nat) => inF (g0 i) (g1 i) (g2 i) (g3 i) y x) x_1.i).length + 1 then match asI IntKind.i64 ((nth [i6 (↑x_1.i : Int)] ((0 + (i - (selL (fun (i : Nat) => inF (g0 i) (g1 i) (g2 i) (g3 i) y x) x_1.i).length)) * 1 + nat_lit 0)).getD (AV.v undef)) with | some x => x | none => (0 : Int) else (0 : Int)] S'_1 (some (n16, 3))) true, Blk.mk n13 (Cont.cells [i6 (↑x_1.i : Int)] 3) true] [Blk.mk n (Cont.lst o len [Col.ints IntKind.i64 g0, Col.ints IntKind.i64 g1, Col.ints IntKind.i64 g2, Col.ints IntKind.i64 g3] S none) false, Blk.mk n1 (Cont.cells [i6 y, i6 x] 24) true, Blk.mk s.n (Cont.res (SS × List Nat) (s, S') (fun (x : SS × List Nat) => x.snd) (packI setC)) true, Blk.mk x'.n (Cont.lst 0 (selL (fun (i : Nat) => inF (g0 i) (g1 i) (g2 i) (g3 i) y x) x'.i).length [Col.ints IntKind.i64 (atI (selL (fun (i : Nat) => inF (g0 i) (g1 i) (g2 i) (g3 i) y x) x'.i))] x'.S (some (x'.cap, 3))) true]) (∃ (x' : GW), (x'.i ≤ len ∧ emptyOk x'.a x'.n (selL (fun (i : Nat) => inF (g0 i) (g1 i) (g2 i) (g3 i) y x) x'.i).length x'.cap) ∧ len - x'.i < len - x_1.i ∧ ((i6 (IntKind.i64.wrap ((↑x_1.i : Int) + (1 : Int)))).den = (i6 (↑x'.i : Int)).den ∧ (AV.os 3 x_1.a x_1.n 0 0 1 (selL (fun (i : Nat) => inF (g0 i) (g1 i) (g2 i) (g3 i) y x) x_1.i).length x_1.cap).den = (AV.os 3 x'.a x'.n 0 0 1 (selL (fun (i : Nat) => inF (g0 i) (g1 i) (g2 i) (g3 i) y x) x'.i).length x'.cap).den ∧ (AV.os 0 a n o 0 4 len cap).den = (AV.os 0 a n o 0 4 len cap).den ∧ (AV.ptr 1 n1 0).den = (AV.ptr 1 n1 0).den ∧ (bF).den = (bF).den ∧ (AV.ptr 2 s.n 0).den = (AV.ptr 2 s.n 0).den ∧ True) ∧ LeH [Blk.mk n (Cont.lst o len [Col.ints IntKind.i64 g0, Col.ints IntKind.i64 g1, Col.ints IntKind.i64 g2, Col.ints IntKind.i64 g3] S none) false, Blk.mk n1 (Cont.cells [i6 y, i6 x] 24) true, Blk.mk s.n (Cont.res (SS × List Nat) (s, S') (fun (x : SS × List Nat) => x.snd) (packI setC)) true, Blk.mk x_1.n (Cont.lst 0 (selL (fun (i : Nat) => inF (g0 i) (g1 i) (g2 i) (g3 i) y x) x_1.i).length [Col.ints IntKind.i64 (atI (selL (fun (i : Nat) => inF (g0 i) (g1 i) (g2 i) (g3 i) y x) x_1.i))] x_1.S (some (x_1.cap, 3))) true] [Blk.mk n (Cont.lst o len [Col.ints IntKind.i64 g0, Col.ints IntKind.i64 g1, Col.ints IntKind.i64 g2, Col.ints IntKind.i64 g3] S none) false, Blk.mk n1 (Cont.cells [i6 y, i6 x] 24) true, Blk.mk s.n (Cont.res (SS × List Nat) (s, S') (fun (x : SS × List Nat) => x.snd) (packI setC)) true, Blk.mk x'.n (Cont.lst 0 (selL (fun (i : Nat) => inF (g0 i) (g1 i) (g2 i) (g3 i) y x) x'.i).length [Col.ints IntKind.i64 (atI (selL (fun (i : Nat) => inF (g0 i) (g1 i) (g2 i) (g3 i) y x) x'.i))] x'.S (some (x'.cap, 3))) true])) (n1 = n1 ∧ n1 = n1 ∧ ∀ (n13 : Nat), n13 = n13 ∧ n1 = n1 ∧ ∃ (s_1 : SS), ∃ (S : List Nat), some (Blk.mk s.n (Cont.res (SS × List Nat) (s, S') (fun (x : SS × List Nat) => x.snd) (packI setC)) true) = some (Blk.mk s_1.n (Cont.res (SS × List Nat) (s_1, S) (fun (x : SS × List Nat) => x.snd) (packI setC)) true) ∧ s.n = s_1.n ∧ ∀ (l : List Int) (a : Option Addr) (n18 n19 : Nat) (S'_1 : List Nat), stabO s_1.L y x l → ∃ (l1 : List Int), ∃ (l2 : List Int), ∃ (S1 : List Nat), ∃ (S2 : List Nat), ∃ (o1 : Bool), ∃ (o2 : Bool), ∃ (w1 : Option (Nat × TypeId)), ∃ (w2 : Option (Nat × TypeId)), some (Blk.mk n18 (Cont.lst 0 l.length [Col.ints IntKind.i64 (atI l)] S'_1 none) true) = some (Blk.mk n18 (Cont.lst 0 l.length [Col.ints IntKind.i64 (atI l1)] S1 w1) o1) ∧ some (Blk.mk x_1.n (Cont.lst 0 (selL (fun (i : Nat) => inF (g0 i) (g1 i) (g2 i) (g3 i) y x) x_1.i).length [Col.ints IntKind.i64 (atI (selL (fun (i : Nat) => inF (g0 i) (g1 i) (g2 i) (g3 i) y x) x_1.i))] x_1.S (some (x_1.cap, 3))) true) = some (Blk.mk x_1.n (Cont.lst 0 (selL (fun (i : Nat) => inF (g0 i) (g1 i) (g2 i) (g3 i) y x) x_1.i).length [Col.ints IntKind.i64 (atI l2)] S2 w2) o2) ∧ List.Pairwise (fun (x1 x2 : Nat) => x1 ≠ x2) [5, 3] ∧ l.length = l1.length ∧ (selL (fun (i : Nat) => inF (g0 i) (g1 i) (g2 i) (g3 i) y x) x_1.i).length = l2.length ∧ l1.length ≤ 9223372036854775807 ∧ l2.length ≤ 9223372036854775807 ∧ br (decide (l1 = l2)) (br (ifB (okP y x && okP y x) (0 : Int) (2 : Int) != (0 : Int)) (R (bT)) (n13 = n13 ∧ ∃ (s_2 : SS), ∃ (S : List Nat), ∃ (o : Bool), some (Blk.mk s.n (Cont.res (SS × List Nat) (s, S') (fun (x : SS × List Nat) => x.snd) (packI setC)) true) = some (Blk.mk s_2.n (Cont.res (SS × List Nat) (s_2, S) (fun (x : SS × List Nat) => x.snd) (packI setC)) o) ∧ s.n = s_2.n ∧ ∀ (l : List Int) (a : Option Addr) (n35 n36 : Nat) (S' : List Nat), meetO s_2.L (RC.mk (ifB (okP y x && okP y x) (min y y) (0 : Int)) (ifB (okP y x && okP y x) (min x x) (0 : Int)) (ifB (okP y x && okP y x) (max y y) (0 : Int)) (ifB (okP y x && okP y x) (max x x) (0 : Int))) l → ∃ (l1 : List Int), ∃ (l2 : List Int), ∃ (S1 : List Nat), ∃ (S2 : List Nat), ∃ (o1 : Bool), ∃ (o2 : Bool), ∃ (w1 : Option (Nat × TypeId)), ∃ (w2 : Option (Nat × TypeId)), some (Blk.mk n35 (Cont.lst 0 l.length [Col.ints IntKind.i64 (atI l)] S' none) true) = some (Blk.mk n35 (Cont.lst 0 l.length [Col.ints IntKind.i64 (atI l1)] S1 w1) o1) ∧ some (Blk.mk x_1.n (Cont.lst 0 (selL (fun (i : Nat) => inF (g0 i) (g1 i) (g2 i) (g3 i) y x) x_1.i).length [Col.ints IntKind.i64 (atI (selL (fun (i : Nat) => inF (g0 i) (g1 i) (g2 i) (g3 i) y x) x_1.i))] x_1.S (some (x_1.cap, 3))) true) = some (Blk.mk x_1.n (Cont.lst 0 (selL (fun (i : Nat) => inF (g0 i) (g1 i) (g2 i) (g3 i) y x) x_1.i).length [Col.ints IntKind.i64 (atI l2)] S2 w2) o2) ∧ List.Pairwise (fun (x1 x2 : Nat) => x1 ≠ x2) [6, 3] ∧ l.length = l1.length ∧ (selL (fun (i : Nat) => inF (g0 i) (g1 i) (g2 i) (g3 i) y x) x_1.i).length = l2.length ∧ l1.length ≤ 9223372036854775807 ∧ l2.length ≤ 9223372036854775807 ∧ br (decide (l1 = l2)) (R (bT)) (R (bF)))) (R (bF)))))) : LC Try.prog 3 [.os 0 a n o 0 4 len cap, .agg [.v (.int .i64 y), .v (.int .i64 x)]] [rxB n o len g0 g1 g2 g3 S false] (fun z_ _ => R z_) :=
  lc_of_exec (tbl := tbOn) tab_ok tbOn_ok mixed (selJ (fun i => inF (g0 i) (g1 i) (g2 i) (g3 i) y x) len []) 2 _ Try.func3 rfl Try.ntmps3 (by decide) (by kernel_rfl) (Nat.le_of_ble_eq_true rfl) (@Eq.mpr (execN tab tbOn (selJ (fun i => inF (g0 i) (g1 i) (g2 i) (g3 i) y x) len []) 2 Try.f3.ntmps [] none 0 (body Try.f3) (argsT [.os 0 a n o 0 4 len cap, .agg [.v (.int .i64 y), .v (.int .i64 x)]] 0) [rxB n o len g0 g1 g2 g3 S false] (post Try.f3 tab (retK (fun z_ _ => R z_)))) _ (by kernel_rfl) h)
set_option maxRecDepth 100000 in
theorem mts_vc (a : Option Addr) (n o len cap : Nat) (g0 g1 g2 g3 : Nat → Int) (S : List Nat) (t l b r : Int) {R : AV → Prop} (h : (∀ (n1 : Nat), ∃ (g0_1 : Nat → Int), ∃ (g1_1 : Nat → Int), ∃ (g2_1 : Nat → Int), ∃ (g3_1 : Nat → Int), ∃ (S_1 : List Nat), ∃ (own : Bool), some (Blk.mk n (Cont.lst o len [Col.ints IntKind.i64 g0, Col.ints IntKind.i64 g1, Col.ints IntKind.i64 g2, Col.ints IntKind.i64 g3] S none) false) = some (Blk.mk n (Cont.lst o len [Col.ints IntKind.i64 g0_1, Col.ints IntKind.i64 g1_1, Col.ints IntKind.i64 g2_1, Col.ints IntKind.i64 g3_1] S_1 none) own) ∧ len ≤ 9223372036854775807 ∧ ∀ (s : SS), ofO s (rcs g0_1 g1_1 g2_1 g3_1) len → ∀ (S' : List Nat), br (decide ((↑len : Int) > (300 : Int))) (R (bT)) ((∃ (x : GW), (x.i ≤ len ∧ emptyOk x.a x.n (selL (fun (i : Nat) => mt (g0 i) (g1 i) (g2 i) (g3 i) t l b r) x.i).length x.cap) ∧ ((i6 (0 : Int)).den = (i6 (↑x.i : Int)).den ∧ (AV.v (Value.slice none 0 0)).den = (AV.os 3 x.a x.n 0 0 1 (selL (fun (i : Nat) => mt (g0 i) (g1 i) (g2 i) (g3 i) t l b r) x.i).length x.cap).den ∧ (AV.os 0 a n o 0 4 len cap).den = (AV.os 0 a n o 0 4 len cap).den ∧ (AV.ptr 1 n1 0).den = (AV.ptr 1 n1 0).den ∧ (bF).den = (bF).den ∧ (AV.ptr 2 s.n 0).den = (AV.ptr 2 s.n 0).den ∧ True) ∧ LeH [Blk.mk n (Cont.lst o len [Col.ints IntKind.i64 g0, Col.ints IntKind.i64 g1, Col.ints IntKind.i64 g2, Col.ints IntKind.i64 g3] S none) false, Blk.mk n1 (Cont.cells [i6 t, i6 l, i6 b, i6 r] 31) true, Blk.mk s.n (Cont.res (SS × List Nat) (s, S') (fun (x : SS × List Nat) => x.snd) (packI setC)) true] [Blk.mk n (Cont.lst o len [Col.ints IntKind.i64 g0, Col.ints IntKind.i64 g1, Col.ints IntKind.i64 g2, Col.ints IntKind.i64 g3] S none) false, Blk.mk n1 (Cont.cells [i6 t, i6 l, i6 b, i6 r] 31) true, Blk.mk s.n (Cont.res (SS × List Nat) (s, S') (fun (x : SS × List Nat) => x.snd) (packI setC)) true, Blk.mk x.n (Cont.lst 0 (selL (fun (i : Nat) => mt (g0 i) (g1 i) (g2 i) (g3 i) t l b r) x.i).length [Col.ints IntKind.i64 (atI (selL (fun (i : Nat) => mt (g0 i) (g1 i) (g2 i) (g3 i) t l b r) x.i))] x.S (some (x.cap, 3))) true]) ∧ ∀ (x : GW), x.i ≤ len ∧ emptyOk x.a x.n (selL (fun (i : Nat) => mt (g0 i) (g1 i) (g2 i) (g3 i) t l b r) x.i).length x.cap → br (decide ((↑x.i : Int) < (↑len : Int))) (((0 : Int) ≤ (↑x.i : Int) ∧ (↑x.i : Int) < (↑len : Int)) ∧ n = n ∧ o = o ∧ 0 + (↑x.i : Int).toNat < len ∧ n1 = n1 ∧ (∀ (n13 : Nat), n13 = n13 ∧ br (mt (g0 (0 + (↑x.i : Int).toNat)) (g1 (0 + (↑x.i : Int).toNat)) (g2 (0 + (↑x.i : Int).toNat)) (g3 (0 + (↑x.i : Int).toNat)) t l b r) (∀ (n14 : Nat), n14 = n14 ∧ x.n = x.n ∧ 0 = 0 ∧ 0 = 0 ∧ (selL (fun (i : Nat) => mt (g0 i) (g1 i) (g2 i) (g3 i) t l b r) x.i).length ≤ (selL (fun (i : Nat) => mt (g0 i) (g1 i) (g2 i) (g3 i) t l b r) x.i).length ∧ x.cap = x.cap ∧ ((selL (fun (i : Nat) => mt (g0 i) (g1 i) (g2 i) (g3 i) t l b r) x.i).length = 0 → x.cap = 0 ∨ x.a = some (Addr.mk x.n 0 none)) ∧ ((selL (fun (i : Nat) => mt (g0 i) (g1 i) (g2 i) (g3 i) t l b r) x.i).length + 1 ≤ 9223372036854775807 ∧ ((selL (fun (i : Nat) => mt (g0 i) (g1 i) (g2 i) (g3 i) t l b r) x.i).length + 1 + ((selL (fun (i : Nat) => mt (g0 i) (g1 i) (g2 i) (g3 i) t l b r) x.i).length + 1) / 4 + 192) * 8 ≤ 281474976710656) ∧ ∀ (a' : Option Addr) (n16 n17 : Nat) (S'_1 : List Nat), (selL (fun (i : Nat) => mt (g0 i) (g1 i) (g2 i) (g3 i) t l b r) x.i).length + 1 ≤ n17 → emptyOk a' n16 ((selL (fun (i : Nat) => mt (g0 i) (g1 i) (g2 i) (g3 i) t l b r) x.i).length + 1) n17 → ∃ (x' : GW), (x'.i ≤ len ∧ emptyOk x'.a x'.n (selL (fun (i : Nat) => mt (g0 i) (g1 i) (g2 i) (g3 i) t l b r) x'.i).length x'.cap) ∧ len - x'.i < len - x.i ∧ ((i6 (IntKind.i64.wrap ((↑x.i : Int) + (1 : Int)))).den = (i6 (↑x'.i : Int)).den ∧ (AV.os 3 a' n16 0 0 1 ((selL (fun (i : Nat) => mt (g0 i) (g1 i) (g2 i) (g3 i) t l b r) x.i).length + 1) n17).den = (AV.os 3 x'.a x'.n 0 0 1 (selL (fun (i : Nat) => mt (g0 i) (g1 i) (g2 i) (g3 i) t l b r) x'.i).length x'.cap).den ∧ (AV.os 0 a n o 0 4 len cap).den = (AV.os 0 a n o 0 4 len cap).den ∧ (AV.ptr 1 n1 0).den = (AV.ptr 1 n1 0).den ∧ (bF).den = (bF).den ∧ (AV.ptr 2 s.n 0).den = (AV.ptr 2 s.n 0).den ∧ True) ∧ LeH [Blk.mk n (Cont.lst o len [Col.ints IntKind.i64 g0, Col.ints IntKind.i64 g1, Col.ints IntKind.i64 g2, Col.ints IntKind.i64 g3] S none) false, Blk.mk n1 (Cont.cells [i6 t, i6 l, i6 b, i6 r] 31) true, Blk.mk s.n (Cont.res (SS × List Nat) (s, S') (fun (x : SS × List Nat) => x.snd) (packI setC)) true, Blk.mk n16 (Cont.lst 0 ((selL (fun (i : Nat) => mt (g0 i) (g1 i) (g2 i) (g3 i) t l b r) x.i).length + 1) [Col.ints IntKind.i64 fun (i : Nat) => if i < (selL (fun (i : Nat) => mt (g0 i) (g1 i) (g2 i) (g3 i) t l b r) x.i).length then atI (selL (fun (i : Nat) => mt (g0 i) (g1 i) (g2 i) (g3 i) t l b r) x.i) i else if i < (selL (fun (i : Nat) => mt (g0 i) (g1 i) (g2 i) (g3 i) t l b r) x.i).length + 1 then match asI IntKind.i64 ((nth [i6 (↑x.i : Int)] ((0 + (i - (selL (fun (i : Nat) => mt (g0 i) (g1 i) (g2 i) (g3 i) t l b r) x.i).length)) * 1 + nat_lit 0)).getD (AV.v undef)) with | some x => x | none => (0 : Int) else (0 : Int)] S'_1 (some (n17, 3))) true, Blk.mk n13 (Cont.cells [i6 (ifB (mt (g0 (0 + (↑x.i : Int).toNat)) (g1 (0 + (↑x.i : Int).toNat)) (g2 (0 + (↑x.i : Int).toNat)) (g3 (0 + (↑x.i : Int).toNat)) t l b r) (max (g0 (0 + (↑x.i : Int).toNat)) t) (0 : Int)), i6 (ifB (mt (g0 (0 + (↑x.i : Int).toNat)) (g1 (0 + (↑x.i : Int).toNat)) (g2 (0 + (↑x.i : Int).toNat)) (g3 (0 + (↑x.i : Int).toNat)) t l b r) (max (g1 (0 + (↑x.i : Int).toNat)) l) (0 : Int)), i6 (ifB (mt (g0 (0 + (↑x.i : Int).toNat)) (g1 (0 + (↑x.i : Int).toNat)) (g2 (0 + (↑x.i : Int).toNat)) (g3 (0 + (↑x.i : Int).toNat)) t l b r) (min (g2 (0 + (↑x.i : Int).toNat)) b) (0 : Int)), i6 (ifB (mt (g0 (0 + (↑x.i : Int).toNat)) (g1 (0 + (↑x.i : Int).toNat)) (g2 (0 + (↑x.i : Int).toNat)) (g3 (0 + (↑x.i : Int).toNat)) t l b r) (min (g3 (0 + (↑x.i : Int).toNat)) r) (0 : Int))] 31) true, Blk.mk n14 (Cont.cells [i6 (↑x.i : Int)] 3) true] [Blk.mk n (Cont.lst o len [Col.ints IntKind.i64 g0, Col.ints IntKind.i64 g1, Col.ints IntKind.i64 g2, Col.ints IntKind.i64 g3] S none) false, Blk.mk n1 (Cont.cells [i6 t, i6 l, i6 b, i6 r] 31) true, Blk.mk s.n (Cont.res (SS × List Nat) (s, S') (fun (x : SS × List Nat) => x.snd) (packI setC)) true, Blk.mk x'.n (Cont.lst 0 (selL (fun (i : Nat) => mt (g0 i) (g1 i) (g2 i) (g3 i) t l b r) x'.i).length [Col.ints IntKind.i64 (atI (selL (fun (i : Nat) => mt (g0 i) (g1 i) (g2 i) (g3 i) t l b r) x'.i))] x'.S (some (x'.cap, 3))) true]) (∃ (x' : GW), (x'.i ≤ len ∧ emptyOk x'.a x'.n (selL (fun (i : Nat) => mt (g0 i) (g1 i) (g2 i) (g3 i) t l b r) x'.i).length x'.cap) ∧ len - x'.i < len - x.i ∧ ((i6 (IntKind.i64.wrap ((↑x.i : Int) + (1 : Int)))).den = (i6 (↑x'.i : Int)).den ∧ (AV.os 3 x.a x.n 0 0 1 (selL (fun (i : Nat) => mt (g0 i) (g1 i) (g2 i) (g3 i) t l b r) x.i).length x.cap).den = (AV.os 3 x'.a x'.n 0 0 1 (selL (fun (i : Nat) => mt (g0 i) (g1 i) (g2 i) (g3 i) t l b r) x'.i).length x'.cap).den ∧ (AV.os 0 a n o 0 4 len cap).den = (AV.os 0 a n o 0 4 len cap).den ∧ (AV.ptr 1 n1 0).den = (AV.ptr 1 n1 0).den ∧ (bF).den = (bF).den ∧ (AV.ptr 2 s.n 0).den = (AV.ptr 2 s.n 0).den ∧ True) ∧ LeH [Blk.mk n (Cont.lst o len [Col.ints IntKind.i64 g0, Col.ints IntKind.i64 g1, Col.ints IntKind.i64 g2, Col.ints IntKind.i64 g3] S none) false, Blk.mk n1 (Cont.cells [i6 t, i6 l, i6 b, i6 r] 31) true, Blk.mk s.n (Cont.res (SS × List Nat) (s, S') (fun (x : SS × List Nat) => x.snd) (packI setC)) true, Blk.mk x.n (Cont.lst 0 (selL (fun (i : Nat) => mt (g0 i) (g1 i) (g2 i) (g3 i) t l b r) x.i).length [Col.ints IntKind.i64 (atI (selL (fun (i : Nat) => mt (g0 i) (g1 i) (g2 i) (g3 i) t l b r) x.i))] x.S (some (x.cap, 3))) true, Blk.mk n13 (Cont.cells [i6 (ifB (mt (g0 (0 + (↑x.i : Int).toNat)) (g1 (0 + (↑x.i : Int).toNat)) (g2 (0 + (↑x.i : Int).toNat)) (g3 (0 + (↑x.i : Int).toNat)) t l b r) (max (g0 (0 + (↑x.i : Int).toNat)) t) (0 : Int)), i6 (ifB (mt (g0 (0 + (↑x.i : Int).toNat)) (g1 (0 + (↑x.i : Int).toNat)) (g2 (0 + (↑x.i : Int).toNat)) (g3 (0 + (↑x.i : Int).toNat)) t l b r) (max (g1 (0 + (↑x.i : Int).toNat)) l) (0 : Int)), i6 (ifB (mt (g0 (0 + (↑x.i : Int).toNat)) (g1 (0 + (↑x.i : Int).toNat)) (g2 (0 + (↑x.i : Int).toNat)) (g3 (0 + (↑x.i : Int).toNat)) t l b r) (min (g2 (0 + (↑x.i : Int).toNat)) b) (0 : Int)), i6 (ifB (mt (g0 (0 + (↑x.i : Int).toNat)) (g1 (0 + (↑x.i : Int).toNat)) (g2 (0 + (↑x.i : Int).toNat)) (g3 (0 + (↑x.i : Int).toNat)) t l b r) (min (g3 (0 + (↑x.i : Int).toNat)) r) (0 : Int))] 31) true] [Blk.mk n (Cont.lst o len [Col.ints IntKind.i64 g0, Col.ints IntKind.i64 g1, Col.ints IntKind.i64 g2, Col.ints IntKind.i64 g3] S none) false, Blk.mk n1 (Cont.cells [i6 t, i6 l, i6 b, i6 r] 31) true, Blk.mk s.n (Cont.res (SS × List Nat) (s, S') (fun (x : SS × List Nat) => x.snd) (packI setC)) true, Blk.mk x'.n (Cont.lst 0 (selL (fun (i : Nat) => mt (g0 i) (g1 i) (g2 i) (g3 i) t l b r) x'.i).length [Col.ints IntKind.i64 (atI (selL (fun (i : Nat) => mt (g0 i) (g1 i) (g2 i) (g3 i) t l b r) x'.i))] x'.S (some (x'.cap, 3))) true])) ∧ ∀ (n13 : Nat), n13 = n13 ∧ br (mt (g0 (0 + (↑x.i : Int).toNat)) (g1 (0 + (↑x.i : Int).toNat)) (g2 (0 + (↑x.i : Int).toNat)) (g3 (0 + (↑x.i : Int).toNat)) t l b r) (∀ (n14 : Nat), n14 = n14 ∧ x.n = x.n ∧ 0 = 0 ∧ 0 = 0 ∧ (selL (fun (i : Nat) => mt (g0 i) (g1 i) (g2 i) (g3 i) t l b r) x.i).length ≤ (selL (fun (i : Nat) => mt (g0 i) (g1 i) (g2 i) (g3 i) t l b r) x.i).length ∧ x.cap = x.cap ∧ ((selL (fun (i : Nat) => mt (g0 i) (g1 i) (g2 i) (g3 i) t l b r) x.i).length = 0 → x.cap = 0 ∨ x.a = some (Addr.mk x.n 0 none)) ∧ ((selL (fun (i : Nat) => mt (g0 i) (g1 i) (g2 i) (g3 i) t l b r) x.i).length + 1 ≤ 9223372036854775807 ∧ ((selL (fun (i : Nat) => mt (g0 i) (g1 i) (g2 i) (g3 i) t l b r) x.i).length + 1 + ((selL (fun (i : Nat) => mt (g0 i) (g1 i) (g2 i) (g3 i) t l b r) x.i).length + 1) / 4 + 192) * 8 ≤ 281474976710656) ∧ ∀ (a' : Option Addr) (n16 n17 : Nat) (S'_1 : List Nat), (selL (fun (i : Nat) => mt (g0 i) (g1 i) (g2 i) (g3 i) t l b r) x.i).length + 1 ≤ n17 → emptyOk a' n16 ((selL (fun (i : Nat) => mt (g0 i) (g1 i) (g2 i) (g3 i) t l b r) x.i).length + 1) n17 → ∃ (x' : GW), (x'.i ≤ len ∧ emptyOk x'.a x'.n (selL (fun (i : Nat) => mt (g0 i) (g1 i) (g2 i) (g3 i) t l b r) x'.i).length x'.cap) ∧ len - x'.i < len - x.i ∧ ((i6 (IntKind.i64.wrap ((↑x.i : Int) + (1 : Int)))).den = (i6 (↑x'.i : Int)).den ∧ (AV.os 3 a' n16 0 0 1 ((selL (fun (i : Nat) => mt (g0 i) (g1 i) (g2 i) (g3 i) t l b r) x.i).length + 1) n17).den = (AV.os 3 x'.a x'.n 0 0 1 (selL (fun (i : Nat) => mt (g0 i) (g1 i) (g2 i) (g3 i) t l b r) x'.i).length x'.cap).den ∧ (AV.os 0 a n o 0 4 len cap).den = (AV.os 0 a n o 0 4 len cap).den ∧ (AV.ptr 1 n1 0).den = (AV.ptr 1 n1 0).den ∧ (bF).den = (bF).den ∧ (AV.ptr 2 s.n 0).den = (AV.ptr 2 s.n 0).den ∧ True) ∧ LeH [Blk.mk n (Cont.lst o len [Col.ints IntKind.i64 g0, Col.ints IntKind.i64 g1, Col.ints IntKind.i64 g2, Col.ints IntKind.i64 g3] S none) false, Blk.mk n1 (Cont.cells [i6 t, i6 l, i6 b, i6 r] 31) true, Blk.mk s.n (Cont.res (SS × List Nat) (s, S') (fun (x : SS × List Nat) => x.snd) (packI setC)) true, Blk.mk n16 (Cont.lst 0 ((selL (fun (i : Nat) => mt (g0 i) (g1 i) (g2 i) (g3 i) t l b r) x.i).length + 1) [Col.ints IntKind.i64 fun (i : Nat) => if i < (selL (fun (i : Nat) => mt (g0 i) (g1 i) (g2 i) (g3 i) t l b r) x.i).length then atI (selL (fun (i : Nat) => mt (g0 i) (g1 i) (g2 i) (g3 i) t l b r) x.i) i else if i < (selL (fun (i : Nat) => mt (g0 i) (g1 i) (g2 i) (g3 i) t l b r) x.i).length + 1 then match asI IntKind.i64 ((nth [i6 (↑x.i : Int)] ((0 + (i - (selL (fun (i : Nat) => mt (g0 i) (g1 i) (g2 i) (g3 i) t l b r) x.i).length)) * 1 + nat_lit 0)).getD (AV.v undef)) with | some x => x | none => (0 : Int) else (0 : Int)] S'_1 (some (n17, 3))) true, Blk.mk n13 (Cont.cells [i6 (ifB (mt (g0 (0 + (↑x.i : Int).toNat)) (g1 (0 + (↑x.i : Int).toNat)) (g2 (0 + (↑x.i : Int).toNat)) (g3 (0 + (↑x.i : Int).toNat)) t l b r) (max (g0 (0 + (↑x.i : Int).toNat)) t) (0 : Int)), i6 (ifB (mt (g0 (0 + (↑x.i : Int).toNat)) (g1 (0 + (↑x.i : Int).toNat)) (g2 (0 + (↑x.i : Int).toNat)) (g3 (0 + (↑x.i : Int).toNat)) t l b r) (max (g1 (0 + (↑x.i : Int).toNat)) l) (0 : Int)), i6 (ifB (mt (g0 (0 + (↑x.i : Int).toNat)) (g1 (0 + (↑x.i : Int).toNat)) (g2 (0 + (↑x.i : Int).toNat)) (g3 (0 + (↑x.i : Int).toNat)) t l b r) (min (g2 (0 + (↑x.i : Int).toNat)) b) (0 : Int)), i6 (ifB (mt (g0 (0 + (↑x.i : Int).toNat)) (g1 (0 + (↑x.i : Int).toNat)) (g2 (0 + (↑x.i : Int).toNat)) (g3 (0 + (↑x.i : Int).toNat)) t l b r) (min (g3 (0 + (↑x.i : Int).toNat)) r) (0 : Int))] 31) true, Blk.mk n14 (Cont.cells [i6 (↑x.i : Int)] 3) true] [Blk.mk n (Cont.lst o len [Col.ints IntKind.i64 g0, Col.ints IntKind.i64 g1, Col.ints IntKind.i64 g2, Col.ints IntKind.i64 g3] S none) false, Blk.mk n1 (Cont.cells [i6 t, i6 l, i6 b, i6 r] 31) true, Blk.mk s.n (Cont.res (SS × List Nat) (s, S') (fun (x : SS × List Nat) => x.snd) (packI setC)) true, Blk.mk x'.n (Cont.lst 0 (selL (fun (i : Nat) => mt (g0 i) (g1 i) (g2 i) (g3 i) t l b r) x'.i).length [Col.ints IntKind.i64 (atI (selL (fun (i : Nat) => mt (g0 i) (g1 i) (g2 i) (g3 i) t l b r) x'.i))] x'.S (some (x'.cap, 3))) true]) (∃ (x' : GW), (x'.i ≤ len ∧ emptyOk x'.a x'.n (selL (fun (i : Nat) => mt (g0 i) (g1 i) (g2 i) (g3 i) t l b r) x'.i).length x'.cap) ∧ len - x'.i < len - x.i ∧ ((i6 (IntKind.i64.wrap ((↑x.i : Int) + (1 : Int)))).den = (i6 (↑x'.i : Int)).den ∧ (AV.os 3 x.a x.n 0 0 1 (selL (fun (i : Nat) => mt (g0 i) (g1 i) (g2 i) (g3 i) t l b r) x.i).length x.cap).den = (AV.os 3 x'.a x'.n 0 0 1 (selL (fun (i : Nat) => mt (g0 i) (g1 i) (g2 i) (g3 i) t l b r) x'.i).length x'.cap).den ∧ (AV.os 0 a n o 0 4 len cap).den = (AV.os 0 a n o 0 4 len cap).den ∧ (AV.ptr 1 n1 0).den = (AV.ptr 1 n1 0).den ∧ (bF).den = (bF).den ∧ (AV.ptr 2 s.n 0).den = (AV.ptr 2 s.n 0).den ∧ True) ∧ LeH [Blk.mk n (Cont.lst o len [Col.ints IntKind.i64 g0, Col.ints IntKind.i64 g1, Col.ints IntKind.i64 g2, Col.ints IntKind.i64 g3] S none) false, Blk.mk n1 (Cont.cells [i6 t, i6 l, i6 b, i6 r] 31) true, Blk.mk s.n (Cont.res (SS × List Nat) (s, S') (fun (x : SS × List Nat) => x.snd) (packI setC)) true, Blk.mk x.n (Cont.lst 0 (selL (fun (i : Nat) => mt (g0 i) (g1 i) (g2 i) (g3 i) t l b r) x.i).length [Col.ints IntKind.i64 (atI (selL (fun (i : Nat) => mt (g0 i) (g1 i) (g2 i) (g3 i) t l b r) x.i))] x.S (some (x.cap, 3))) true, Blk.mk n13 (Cont.cells [i6 (ifB (mt (g0 (0 + (↑x.i : Int).toNat)) (g1 (0 + (↑x.i : Int).toNat)) (g2 (0 + (↑x.i : Int).toNat)) (g3 (0 + (↑x.i : Int).toNat)) t l b r) (max (g0 (0 + (↑x.i : Int).toNat)) t) (0 : Int)), i6 (ifB (mt (g0 (0 + (↑x.i : Int).toNat)) (g1 (0 + (↑x.i : Int).toNat)) (g2 (0 + (↑x.i : Int).toNat)) (g3 (0 + (↑x.i : Int).toNat)) t l b r) (max (g1 (0 + (↑x.i : Int).toNat)) l) (0 : Int)), i6 (ifB (mt (g0 (0 + (↑x.i : Int).toNat)) (g1 (0 + (↑x.i : Int).toNat)) (g2 (0 + (↑x.i : Int).toNat)) (g3 (0 + (↑x.i : Int).toNat)) t l b r) (min (g2 (0 + (↑x.i : Int).toNat)) b) (0 : Int)), i6 (ifB (mt (g0 (0 + (↑x.i : Int).toNat)) (g1 (0 + (↑x.i : Int).toNat)) (g2 (0 + (↑x.i : Int).toNat)) (g3 (0 + (↑x.i : Int).toNat)) t l b r) (min (g3 (0 + (↑x.i : Int).toNat)) r) (0 : Int))] 31) true] [Blk.mk n (Cont.lst o len [Col.ints IntKind.i64 g0, Col.ints IntKind.i64 g1, Col.ints IntKind.i64 g2, Col.ints IntKind.i64 g3] S none) false, Blk.mk n1 (Cont.cells [i6 t, i6 l, i6 b, i6 r] 31) true, Blk.mk s.n (Cont.res (SS × List Nat) (s, S') (fun (x : SS × List Nat) => x.snd) (packI setC)) true, Blk.mk x'.n (Cont.lst 0 (selL (fun (i : Nat) => mt (g0 i) (g1 i) (g2 i) (g3 i) t l b r) x'.i).length [Col.ints IntKind.i64 (atI (selL (fun (i : Nat) => mt (g0 i) (g1 i) (g2 i) (g3 i) t l b r) x'.i))] x'.S (some (x'.cap, 3))) true])) (n1 = n1 ∧ ∃ (s_1 : SS), ∃ (S : List Nat), ∃ (o : Bool), some (Blk.mk s.n (Cont.res (SS × List Nat) (s, S') (fun (x : SS × List Nat) => x.snd) (packI setC)) true) = some (Blk.mk s_1.n (Cont.res (SS × List Nat) (s_1, S) (fun (x : SS × List Nat) => x.snd) (packI setC)) o) ∧ s.n = s_1.n ∧ ∀ (l_1 : List Int) (a : Option Addr) (n18 n19 : Nat) (S' : List Nat), meetO s_1.L (RC.mk t l b r) l_1 → ∃ (l1 : List Int), ∃ (l2 : List Int), ∃ (S1 : List Nat), ∃ (S2 : List Nat), ∃ (o1 : Bool), ∃ (o2 : Bool), ∃ (w1 : Option (Nat × TypeId)), ∃ (w2 : Option (Nat × TypeId)), some (Blk.mk n18 (Cont.lst 0 l_1.length [Col.ints IntKind.i64 (atI l_1)] S' none) true) = some (Blk.mk n18 (Cont.lst 0 l_1.length [Col.ints IntKind.i64 (atI l1)] S1 w1) o1) ∧ some (Blk.mk x.n (Cont.lst 0 (selL (fun (i : Nat) => mt (g0 i) (g1 i) (g2 i) (g3 i) t l b r) x.i).length [Col.ints IntKind.i64 (atI (selL (fun (i : Nat) => mt (g0 i) (g1 i) (g2 i) (g3 i) t l b r) x.i))] x.S (some (x.cap, 3))) true) = some (Blk.mk x.n (Cont.lst 0 (selL (fun (i : Nat) => mt (g0 i) (g1 i) (g2 i) (g3 i) t l b r) x.i).length [Col.ints IntKind.i64 (atI l2)] S2 w2) o2) ∧ List.Pairwise (fun (x1 x2 : Nat) => x1 ≠ x2) [4, 3] ∧ l_1.length = l1.length ∧ (selL (fun (i : Nat) => mt (g0 i) (g1 i) (g2 i) (g3 i) t l b r) x.i).length = l2.length ∧ l1.length ≤ 9223372036854775807 ∧ l2.length ≤ 9223372036854775807 ∧ br (decide (l1 = l2)) (R (bT)) (R (bF)))))) : LC Try.prog 4 [.os 0 a n o 0 4 len cap, .agg [.v (.int .i64 t), .v (.int .i64 l), .v (.int .i64 b), .v (.int .i64 r)]] [rxB n o len g0 g1 g2 g3 S false] (fun z_ _ => R z_) :=
  lc_of_exec (tbl := tbOn) tab_ok tbOn_ok mixed (selJ (fun i => mt (g0 i) (g1 i) (g2 i) (g3 i) t l b r) len []) 2 _ Try.func4 rfl Try.ntmps4 (by decide) (by kernel_rfl) (Nat.le_of_ble_eq_true rfl) (@Eq.mpr (execN tab tbOn (selJ (fun i => mt (g0 i) (g1 i) (g2 i) (g3 i) t l b r) len []) 2 Try.f4.ntmps [] none 0 (body Try.f4) (argsT [.os 0 a n o 0 4 len cap, .agg [.v (.int .i64 t), .v (.int .i64 l), .v (.int .i64 b), .v (.int .i64 r)]] 0) [rxB n o len g0 g1 g2 g3 S false] (post Try.f4 tab (retK (fun z_ _ => R z_)))) _ (by kernel_rfl) h)
end Go.Proofs.Ytjnehpljhnlbfaa
namespace Go.Eng
open Go Go.Sp Go.Op Go.Proofs.Ytjnehpljhnlbfaa
theorem snocB {n : Nat} {l m : List Int} {v : Int} {S : List Nat} {cap : Nat} (h : m = l ++ [v]) : LeB ⟨n, .lst 0 (l.length + 1) [.ints .i64 fun (i : Nat) => if i < l.length then atI l i else if i < l.length + 1 then (match asI .i64 ((nth [AV.v (.int .i64 v)] ((0 + (i - l.length)) * 1 + 0)).getD (AV.v undef)) with | some x => x | none => 0) else 0] S (some (cap, 3)), true⟩ ⟨n, .lst 0 m.length [.ints .i64 (atI m)] S (some (cap, 3)), true⟩ := by
  have hl : m.length = l.length + 1 := by rw [h, List.length_append]; rfl
  refine LeB.ints (Nat.le_of_eq hl) (fun h => h) (.inr rfl) fun i hi => ?_
  rw [h, atI_cat]
  split
  · rfl
  · rename_i hn
    have e : i - l.length = 0 := by omega
    rw [e, if_pos (by omega)]
    rfl
end Go.Eng
namespace Go.Proofs.Ytjnehpljhnlbfaa
open Go Go.Eng Go.Sp Go.Op
set_option linter.unusedVariables false
set_option linter.unusedSimpArgs false
theorem in_mt {y x : Int} (q : RC) (hp : okP y x = true) : inF q.t q.l q.b q.r y x = (okQ q && mtQ q ⟨y, x, y, x⟩) := by
  show (okR q.t q.l q.b q.r && _) = (okR q.t q.l q.b q.r && _)
  congr 1
  rw [Bool.eq_iff_iff]
  simp only [mtQ, colM, rowM, decide_eq_true_eq, Bool.and_eq_true, Bool.not_eq_true', decide_eq_false_iff_not]
  omega
theorem in_no {y x : Int} (q : RC) (hp : okP y x = false) : inF q.t q.l q.b q.r y x = false := by
  cases h : inF q.t q.l q.b q.r y x with
  | false => rfl
  | true =>
    have h' := h
    simp only [inF, Bool.and_eq_true, decide_eq_true_eq] at h'
    have h1 := okR_b h'.1
    have : okP y x = true := by simp only [okP, decide_eq_true_eq]; omega
    rw [this] at hp; cases hp
theorem one_law (a : Option Addr) (n o len cap : Nat) (g0 g1 g2 g3 : Nat → Int) (S : List Nat) (y x : Int) (hlen : len ≤ 9223372036854775807) :
    LC Try.prog 3 [.os 0 a n o 0 4 len cap, .agg [.v (.int .i64 y), .v (.int .i64 x)]] [rxB n o len g0 g1 g2 g3 S false] (fun z _ => z = .v (.bool true)) :=
  one_vc a n o len cap g0 g1 g2 g3 S y x (by
    intro n1
    refine ⟨g0, g1, g2, g3, S, false, rfl, hlen, fun s hs S' => br_intro (fun _ => rfl) (fun h3 => ⟨⟨⟨0, none, 0, 0, []⟩, ⟨Nat.zero_le _, fun _ => .inl rfl⟩, ⟨rfl, rfl, rfl, rfl, rfl, rfl, trivial⟩, ?_⟩, fun w hw => ?_⟩)⟩
    · exact LeH.trans (LeH.more (b := ⟨0, .lst 0 0 [.ints .i64 (atI [])] [] (some (0, 3)), true⟩) rfl fun w => lst_nil (.inr ⟨_, rfl, rfl⟩)) (LeH.refl _)
    have h3 := of_decide_eq_false h3
    obtain ⟨hi, he⟩ := hw
    have hi2 : 0 + (w.i : Int).toNat = w.i := by omega
    have hsl := selL_len (fun i => inF (g0 i) (g1 i) (g2 i) (g3 i) y x) w.i
    refine br_intro (fun hlt => ?_) (fun hge => ?_)
    · have hlt := of_decide_eq_true hlt
      rw [hi2]
      have hw64 : IntKind.i64.wrap ((w.i : Int) + 1) = ((w.i + 1 : Nat) : Int) := by rw [w64 (by omega)]; rfl
      rw [hw64]
      refine ⟨by omega, rfl, rfl, by omega, rfl, br_intro (fun hp => ?_) (fun hp => ?_)⟩
      · have e := selL_yes (p := fun i => inF (g0 i) (g1 i) (g2 i) (g3 i) y x) hp
        have el : (selL (fun i => inF (g0 i) (g1 i) (g2 i) (g3 i) y x) (w.i + 1)).length = (selL (fun i => inF (g0 i) (g1 i) (g2 i) (g3 i) y x) w.i).length + 1 := by rw [e, List.length_append]; rfl
        refine fun n13 => ⟨rfl, rfl, rfl, rfl, Nat.le_refl _, rfl, he, ⟨by omega, by omega⟩, fun a' n15 n16 S1 k1 k2 => ⟨⟨w.i + 1, a', n15, n16, S1⟩, ⟨by simp only; omega, by rw [el]; exact k2⟩, by simp only; omega, ⟨rfl, by rw [el], rfl, rfl, rfl, rfl, trivial⟩, ?_⟩⟩
        exact leAt [0, 1, 2, 3] (by decide) ⟨LeB.refl _, LeB.refl _, LeB.refl _, snocB e, trivial⟩
      · have e := selL_no (p := fun i => inF (g0 i) (g1 i) (g2 i) (g3 i) y x) hp
        exact ⟨⟨w.i + 1, w.a, w.n, w.cap, w.S⟩, ⟨by simp only; omega, by rw [e]; exact he⟩, by simp only; omega, ⟨rfl, by rw [e], rfl, rfl, rfl, rfl, trivial⟩, by rw [e]; exact LeH.refl _⟩
    · have hge := of_decide_eq_false hge
      have ewi : w.i = len := by omega
      have hL : s.L = ofR (rcs g0 g1 g2 g3) len := by rw [hs.is, ofL_eq _ (by omega)]
      have hst : stabL s.L y x = selL (fun i => inF (g0 i) (g1 i) (g2 i) (g3 i) y x) w.i := by
        unfold stabL
        rw [ewi, hL]
        cases hp : okP y x with
        | false =>
          have : (fun i => inF (g0 i) (g1 i) (g2 i) (g3 i) y x) = fun _ => false := funext fun i => in_no (rcs g0 g1 g2 g3 i) hp
          rw [this]
          unfold selL
          simp
        | true =>
          have hq : okQ ⟨y, x, y, x⟩ = true := by
            show okR y x y x = true
            have := hp
            simp only [okP, decide_eq_true_eq] at this
            rw [okR_iff]; omega
          rw [if_pos rfl, meet_ofR _ _ hq]
          congr 1
          exact funext fun i => (in_mt (rcs g0 g1 g2 g3 i) hp).symm
      refine ⟨rfl, rfl, fun n13 => ⟨rfl, rfl, s, S', rfl, rfl, fun l b n18 n19 S1 hl => ?_⟩⟩
      have el : l = selL (fun i => inF (g0 i) (g1 i) (g2 i) (g3 i) y x) w.i := hl.is.trans hst
      have ell : l.length ≤ 9223372036854775807 := by rw [el]; omega
      refine ⟨l, selL (fun i => inF (g0 i) (g1 i) (g2 i) (g3 i) y x) w.i, S1, w.S, true, true, none, some (w.cap, 3), rfl, rfl, by decide, rfl, rfl, ell, by omega, br_intro (fun _ => ?_) (fun h => absurd el (of_decide_eq_false h))⟩
      cases hp : okP y x with
      | false => exact rfl
      | true =>
        refine ⟨rfl, s, S', true, rfl, rfl, fun m b n35 n36 S2 hm => ?_⟩
        have em : m = selL (fun i => inF (g0 i) (g1 i) (g2 i) (g3 i) y x) w.i := by
          rw [← hst, hm.is]
          unfold stabL
          rw [hp, if_pos rfl]
          congr 1
          show RC.mk (min y y) (min x x) (max y y) (max x x) = _
          have e1 : min y y = y := by omega
          have e2 : min x x = x := by omega
          have e3 : max y y = y := by omega
          have e4 : max x x = x := by omega
          rw [e1, e2, e3, e4]
        exact ⟨m, selL (fun i => inF (g0 i) (g1 i) (g2 i) (g3 i) y x) w.i, S2, w.S, true, true, none, some (w.cap, 3), rfl, rfl, by decide, rfl, rfl, by rw [em]; omega, by omega, br_intro (fun _ => rfl) (fun h => absurd em (of_decide_eq_false h))⟩)
theorem mt_mtQ (q r : RC) : mt q.t q.l q.b q.r r.t r.l r.b r.r = (okQ q && (okQ r && mtQ q r)) := by
  unfold mt
  show (okR _ _ _ _ && okR _ _ _ _ && _) = (okR _ _ _ _ && (okR _ _ _ _ && _))
  rw [Bool.and_assoc]
  cases h1 : okR q.t q.l q.b q.r with
  | false => rfl
  | true =>
    cases h2 : okR r.t r.l r.b r.r with
    | false => rfl
    | true =>
      rw [mt_and h1 h2]
      have b1 := okR_b h1
      have b2 := okR_b h2
      simp only [Bool.true_and]
      rw [Bool.eq_iff_iff]
      simp only [mtQ, colM, rowM, decide_eq_true_eq, Bool.and_eq_true, Bool.not_eq_true', decide_eq_false_iff_not]
      omega
theorem mts_law (a : Option Addr) (n o len cap : Nat) (g0 g1 g2 g3 : Nat → Int) (S : List Nat) (t l b r : Int) (hlen : len ≤ 9223372036854775807) :
    LC Try.prog 4 [.os 0 a n o 0 4 len cap, .agg [.v (.int .i64 t), .v (.int .i64 l), .v (.int .i64 b), .v (.int .i64 r)]] [rxB n o len g0 g1 g2 g3 S false] (fun z _ => z = .v (.bool true)) :=
  mts_vc a n o len cap g0 g1 g2 g3 S t l b r (by
    intro n1
    refine ⟨g0, g1, g2, g3, S, false, rfl, hlen, fun s hs S' => br_intro (fun _ => rfl) (fun h3 => ⟨⟨⟨0, none, 0, 0, []⟩, ⟨Nat.zero_le _, fun _ => .inl rfl⟩, ⟨rfl, rfl, rfl, rfl, rfl, rfl, trivial⟩, ?_⟩, fun w hw => ?_⟩)⟩
    · exact LeH.trans (LeH.more (b := ⟨0, .lst 0 0 [.ints .i64 (atI [])] [] (some (0, 3)), true⟩) rfl fun w => lst_nil (.inr ⟨_, rfl, rfl⟩)) (LeH.refl _)
    have h3 := of_decide_eq_false h3
    obtain ⟨hi, he⟩ := hw
    have hi2 : 0 + (w.i : Int).toNat = w.i := by omega
    have hsl := selL_len (fun i => mt (g0 i) (g1 i) (g2 i) (g3 i) t l b r) w.i
    refine br_intro (fun hlt => ?_) (fun hge => ?_)
    · have hlt := of_decide_eq_true hlt
      rw [hi2]
      have hw64 : IntKind.i64.wrap ((w.i : Int) + 1) = ((w.i + 1 : Nat) : Int) := by rw [w64 (by omega)]; rfl
      rw [hw64]
      refine ⟨by omega, rfl, rfl, by omega, rfl, ⟨fun n13 => ⟨rfl, br_intro (fun hp => ?_) (fun hp => ?_)⟩, fun n13 => ⟨rfl, br_intro (fun hp => ?_) (fun hp => ?_)⟩⟩⟩
      · have e := selL_yes (p := fun i => mt (g0 i) (g1 i) (g2 i) (g3 i) t l b r) hp
        have el : (selL (fun i => mt (g0 i) (g1 i) (g2 i) (g3 i) t l b r) (w.i + 1)).length = (selL (fun i => mt (g0 i) (g1 i) (g2 i) (g3 i) t l b r) w.i).length + 1 := by rw [e, List.length_append]; rfl
        refine fun n14 => ⟨rfl, rfl, rfl, rfl, Nat.le_refl _, rfl, he, ⟨by omega, by omega⟩, fun a' n15 n16 S1 k1 k2 => ⟨⟨w.i + 1, a', n15, n16, S1⟩, ⟨by simp only; omega, by rw [el]; exact k2⟩, by simp only; omega, ⟨rfl, by rw [el], rfl, rfl, rfl, rfl, trivial⟩, ?_⟩⟩
        exact leAt [0, 1, 2, 3] (by decide) ⟨LeB.refl _, LeB.refl _, LeB.refl _, snocB e, trivial⟩
      · have e := selL_no (p := fun i => mt (g0 i) (g1 i) (g2 i) (g3 i) t l b r) hp
        exact ⟨⟨w.i + 1, w.a, w.n, w.cap, w.S⟩, ⟨by simp only; omega, by rw [e]; exact he⟩, by simp only; omega, ⟨rfl, by rw [e], rfl, rfl, rfl, rfl, trivial⟩, by rw [e]; exact leAt [0, 1, 2, 3] (by decide) ⟨LeB.refl _, LeB.refl _, LeB.refl _, LeB.refl _, trivial⟩⟩
      · have e := selL_yes (p := fun i => mt (g0 i) (g1 i) (g2 i) (g3 i) t l b r) hp
        have el : (selL (fun i => mt (g0 i) (g1 i) (g2 i) (g3 i) t l b r) (w.i + 1)).length = (selL (fun i => mt (g0 i) (g1 i) (g2 i) (g3 i) t l b r) w.i).length + 1 := by rw [e, List.length_append]; rfl
        refine fun n14 => ⟨rfl, rfl, rfl, rfl, Nat.le_refl _, rfl, he, ⟨by omega, by omega⟩, fun a' n15 n16 S1 k1 k2 => ⟨⟨w.i + 1, a', n15, n16, S1⟩, ⟨by simp only; omega, by rw [el]; exact k2⟩, by simp only; omega, ⟨rfl, by rw [el], rfl, rfl, rfl, rfl, trivial⟩, ?_⟩⟩
        exact leAt [0, 1, 2, 3] (by decide) ⟨LeB.refl _, LeB.refl _, LeB.refl _, snocB e, trivial⟩
      · have e := selL_no (p := fun i => mt (g0 i) (g1 i) (g2 i) (g3 i) t l b r) hp
        exact ⟨⟨w.i + 1, w.a, w.n, w.cap, w.S⟩, ⟨by simp only; omega, by rw [e]; exact he⟩, by simp only; omega, ⟨rfl, by rw [e], rfl, rfl, rfl, rfl, trivial⟩, by rw [e]; exact leAt [0, 1, 2, 3] (by decide) ⟨LeB.refl _, LeB.refl _, LeB.refl _, LeB.refl _, trivial⟩⟩
    · have hge := of_decide_eq_false hge
      have ewi : w.i = len := by omega
      have hL : s.L = ofR (rcs g0 g1 g2 g3) len := by rw [hs.is, ofL_eq _ (by omega)]
      have hst : meetL s.L ⟨t, l, b, r⟩ = selL (fun i => mt (g0 i) (g1 i) (g2 i) (g3 i) t l b r) w.i := by
        rw [ewi, hL]
        have ep : (fun i => mt (g0 i) (g1 i) (g2 i) (g3 i) t l b r) = fun i => (okQ (rcs g0 g1 g2 g3 i) && (okQ ⟨t, l, b, r⟩ && mtQ (rcs g0 g1 g2 g3 i) ⟨t, l, b, r⟩)) := funext fun i => mt_mtQ (rcs g0 g1 g2 g3 i) ⟨t, l, b, r⟩
        rw [ep]
        cases hq : okQ ⟨t, l, b, r⟩ with
        | false =>
          unfold meetL selL
          rw [hq]
          simp
        | true => rw [meet_ofR _ _ hq]; rfl
      refine ⟨rfl, s, S', true, rfl, rfl, fun m b n18 n19 S1 hl => ?_⟩
      have el : m = selL (fun i => mt (g0 i) (g1 i) (g2 i) (g3 i) t l _ r) w.i := hl.is.trans hst
      have ell : m.length ≤ 9223372036854775807 := by rw [el]; omega
      exact ⟨m, selL (fun i => mt (g0 i) (g1 i) (g2 i) (g3 i) t l _ r) w.i, S1, w.S, true, true, none, some (w.cap, 3), rfl, rfl, by decide, rfl, rfl, ell, by omega, br_intro (fun _ => rfl) (fun h => absurd el (of_decide_eq_false h))⟩)
end Go.Proofs.Ytjnehpljhnlbfaa
