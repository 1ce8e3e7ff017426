/- Span: a set: conditions. -/
import Derived.Test.YtjnehpljhnlbfaaT11
import Derived.Test.YtjnehpljhnlbfaaPA
import Derived.Test.YtjnehpljhnlbfaaY11
namespace Go.Sp
open Go.Eng Go.Proofs.Ytjnehpljhnlbfaa

/-- A set: where it and its map lie, what is in the map, the tree. -/
structure SS where
  n : Nat
  mn : Nat
  es : List ((Int × RC) × Nat)
  clock : Nat
  t : PT

end Go.Sp
namespace Go.Eng
open Go Go.Sp Go.Proofs.Ytjnehpljhnlbfaa

abbrev rcV (q : RC) : AV := .agg [.v (.int .i64 q.t), .v (.int .i64 q.l), .v (.int .i64 q.b), .v (.int .i64 q.r)]
def kyR (a : Int × RC) : AV := .v (.int .i64 a.1)
def vlR (a : Int × RC) : AV := rcV a.2
def mkR (k v : AV) : Option (Int × RC) :=
  match k, v with
  | .v (.int .i64 id), .agg [.v (.int .i64 t), .v (.int .i64 l), .v (.int .i64 b), .v (.int .i64 r)] => some (id, ⟨t, l, b, r⟩)
  | _, _ => none
theorem mkR_eq {k v : AV} {a : Int × RC} (h : mkR k v = some a) : kyR a = k ∧ vlR a = v := by
  unfold mkR at h
  split at h
  · cases h; exact ⟨rfl, rfl⟩
  · cases h

abbrev stB (n : Nat) (p m : AV) : Blk := ⟨n, .cells [p, m] 75, true⟩
abbrev mpB (mn : Nat) (es : List ((Int × RC) × Nat)) (clock : Nat) : Blk := ⟨mn, .mape (Int × RC) kyR vlR mkR es clock, true⟩

end Go.Eng
namespace Go.Proofs.Ytjnehpljhnlbfaa
open Go Go.Eng Go.Sp
set_option linter.unusedVariables false
set_option linter.unusedSimpArgs false


def madI : Handler := inlH tab [] noinv 2 Try.f32 1

set_option maxRecDepth 100000 in
theorem mad_ok : HOk Try.prog 32 madI :=
  inl_ok (tbl := []) tab_ok trivial mixed noinv 2 _ 1 Try.func32 rfl Try.ntmps32 (by decide) (by kernel_rfl) (Nat.le_of_ble_eq_true rfl)


def tbSe : Tbl := (32, .gen madI) :: (23, .pure pcheckH) :: (42, .gen (withH 100000)) :: (43, .gen (delH 100000)) :: (50, .gen htH) :: []

theorem tbSe_ok : TblOk Try.prog tbSe := ⟨mad_ok, pcheck_ok, with_ok 100000, del_ok 100000, ht_ok, trivial⟩


set_option maxRecDepth 100000 in
theorem sNew_vc  {R : AV → HH → Prop} (h : (∀ (n1 n2 : Nat), R (AV.ptr (1 : Nat) n2 (0 : Nat)) [Blk.mk n1 (Cont.mapc [] (0 : Nat)) true, Blk.mk n2 (Cont.cells [AV.v (Value.pointer none), AV.mp (0 : Nat) n1] (75 : Nat)) true])) : LC Try.prog 24 [] [] R :=
  lc_of_exec (tbl := []) tab_ok trivial mixed noinv 2 _ Try.func24 rfl Try.ntmps24 (by decide) (by kernel_rfl) (Nat.le_of_ble_eq_true rfl) (@Eq.mpr (execN tab [] noinv 2 Try.f24.ntmps [] none 0 (body Try.f24) (argsT [] 0) [] (post Try.f24 tab (retK R))) _ (by kernel_rfl) h)



set_option maxRecDepth 100000 in
theorem sAdd_vc (s : SS) (S : List Nat) (id : Int) (q : RC) {R : AV → HH → Prop} (h : (∀ (n1 : Nat), s.n = s.n ∧ n1 = n1 ∧ br (ifB (okR q.t q.l q.b q.r) (0 : Int) (2 : Int) != (0 : Int)) (R (AV.v (Value.int IntKind.i64 (ifB (okR q.t q.l q.b q.r) (0 : Int) (2 : Int)))) [Blk.mk s.n (Cont.cells [AV.pp (2 : Nat) s.t.root, AV.mp (1 : Nat) s.mn] (75 : Nat)) true, Blk.mk s.mn (Cont.mape (Int × RC) kyR vlR mkR s.es s.clock) true, Blk.mk (0 : Nat) (Cont.res (PT × List Nat) (s.t, S) (fun (x : PT × List Nat) => x.snd) (packI treeC)) true, Blk.mk n1 (Cont.cells [AV.v (Value.int IntKind.i64 q.t), AV.v (Value.int IntKind.i64 q.l), AV.v (Value.int IntKind.i64 q.b), AV.v (Value.int IntKind.i64 q.r)] (31 : Nat)) true]) (s.n = s.n ∧ s.mn = s.mn ∧ (∀ (a : Int × RC) (n3 : Nat), (a, n3) ∈ s.es → br (id == a.fst) (∀ (n5 : Nat), n5 = n5 ∧ R (AV.v (Value.int IntKind.i64 (9 : Int))) [Blk.mk s.n (Cont.cells [AV.pp (2 : Nat) s.t.root, AV.mp (1 : Nat) s.mn] (75 : Nat)) true, Blk.mk s.mn (Cont.mape (Int × RC) kyR vlR mkR s.es s.clock) true, Blk.mk (0 : Nat) (Cont.res (PT × List Nat) (s.t, S) (fun (x : PT × List Nat) => x.snd) (packI treeC)) true, Blk.mk n1 (Cont.cells [AV.v (Value.int IntKind.i64 q.t), AV.v (Value.int IntKind.i64 q.l), AV.v (Value.int IntKind.i64 q.b), AV.v (Value.int IntKind.i64 q.r)] (31 : Nat)) true, Blk.mk n5 (Cont.cells [AV.v (Value.int IntKind.i64 a.snd.t), AV.v (Value.int IntKind.i64 a.snd.l), AV.v (Value.int IntKind.i64 a.snd.b), AV.v (Value.int IntKind.i64 a.snd.r)] (31 : Nat)) true]) True) ∧ ((∀ (a : Int × RC) (b : Nat), (a, b) ∈ s.es → (id == a.fst) = false) → ∀ (n3 : Nat), n3 = n3 ∧ s.n = s.n ∧ s.mn = s.mn ∧ br (decide ((↑s.es.length : Int) ≥ (8192 : Int))) (R (AV.v (Value.int IntKind.i64 (7 : Int))) [Blk.mk s.n (Cont.cells [AV.pp (2 : Nat) s.t.root, AV.mp (1 : Nat) s.mn] (75 : Nat)) true, Blk.mk s.mn (Cont.mape (Int × RC) kyR vlR mkR s.es s.clock) true, Blk.mk (0 : Nat) (Cont.res (PT × List Nat) (s.t, S) (fun (x : PT × List Nat) => x.snd) (packI treeC)) true, Blk.mk n1 (Cont.cells [AV.v (Value.int IntKind.i64 q.t), AV.v (Value.int IntKind.i64 q.l), AV.v (Value.int IntKind.i64 q.b), AV.v (Value.int IntKind.i64 q.r)] (31 : Nat)) true, Blk.mk n3 (Cont.cells [AV.v (Value.int IntKind.i64 (0 : Int)), AV.v (Value.int IntKind.i64 (0 : Int)), AV.v (Value.int IntKind.i64 (0 : Int)), AV.v (Value.int IntKind.i64 (0 : Int))] (31 : Nat)) true]) (s.n = s.n ∧ n1 = n1 ∧ s.mn = s.mn ∧ (∀ (a : Int × RC) (n5 : Nat), (a, n5) ∈ s.es → br (id == a.fst) (s.n = s.n ∧ n1 = n1 ∧ ∃ (t : PT), ∃ (S_1 : List Nat), some (Blk.mk (0 : Nat) (Cont.res (PT × List Nat) (s.t, S) (fun (x : PT × List Nat) => x.snd) (packI treeC)) true) = some (Blk.mk (0 : Nat) (Cont.res (PT × List Nat) (t, S_1) (fun (x : PT × List Nat) => x.snd) (packI treeC)) true) ∧ s.t.root = t.root ∧ t.good ∧ t.sz < (100000 : Nat) ∧ (100000 : Nat) ≤ (100000 : Nat) ∧ (0 : Int) ≤ q.b ∧ ∀ (T : PT), (∃ (nn : Nat), T = PT.ins nn id (RC.mk q.t q.l q.b q.r) t) → ∀ (S : List Nat), s.n = s.n ∧ R (AV.v (Value.int IntKind.i64 (0 : Int))) [Blk.mk s.n (Cont.cells [AV.pp (5 : Nat) T.root, AV.mp (1 : Nat) s.mn] (75 : Nat)) true, Blk.mk s.mn (Cont.mape (Int × RC) kyR vlR mkR (setE s.es n5 (id, RC.mk q.t q.l q.b q.r)) s.clock) true, Blk.mk (0 : Nat) (Cont.lst (0 : Nat) (0 : Nat) [] [] none) false, Blk.mk n1 (Cont.cells [AV.v (Value.int IntKind.i64 q.t), AV.v (Value.int IntKind.i64 q.l), AV.v (Value.int IntKind.i64 q.b), AV.v (Value.int IntKind.i64 q.r)] (31 : Nat)) true, Blk.mk n3 (Cont.cells [AV.v (Value.int IntKind.i64 (0 : Int)), AV.v (Value.int IntKind.i64 (0 : Int)), AV.v (Value.int IntKind.i64 (0 : Int)), AV.v (Value.int IntKind.i64 (0 : Int))] (31 : Nat)) true, Blk.mk (0 : Nat) (Cont.res (PT × List Nat) (T, S) (fun (x : PT × List Nat) => x.snd) (packI treeC)) true]) True) ∧ ((∀ (a : Int × RC) (b : Nat), (a, b) ∈ s.es → (id == a.fst) = false) → s.n = s.n ∧ n1 = n1 ∧ ∃ (t : PT), ∃ (S_1 : List Nat), some (Blk.mk (0 : Nat) (Cont.res (PT × List Nat) (s.t, S) (fun (x : PT × List Nat) => x.snd) (packI treeC)) true) = some (Blk.mk (0 : Nat) (Cont.res (PT × List Nat) (t, S_1) (fun (x : PT × List Nat) => x.snd) (packI treeC)) true) ∧ s.t.root = t.root ∧ t.good ∧ t.sz < (100000 : Nat) ∧ (100000 : Nat) ≤ (100000 : Nat) ∧ (0 : Int) ≤ q.b ∧ ∀ (T : PT), (∃ (nn : Nat), T = PT.ins nn id (RC.mk q.t q.l q.b q.r) t) → ∀ (S : List Nat), s.n = s.n ∧ R (AV.v (Value.int IntKind.i64 (0 : Int))) [Blk.mk s.n (Cont.cells [AV.pp (5 : Nat) T.root, AV.mp (1 : Nat) s.mn] (75 : Nat)) true, Blk.mk s.mn (Cont.mape (Int × RC) kyR vlR mkR (s.es ++ [((id, RC.mk q.t q.l q.b q.r), s.clock)]) (s.clock + (1 : Nat))) true, Blk.mk (0 : Nat) (Cont.lst (0 : Nat) (0 : Nat) [] [] none) false, Blk.mk n1 (Cont.cells [AV.v (Value.int IntKind.i64 q.t), AV.v (Value.int IntKind.i64 q.l), AV.v (Value.int IntKind.i64 q.b), AV.v (Value.int IntKind.i64 q.r)] (31 : Nat)) true, Blk.mk n3 (Cont.cells [AV.v (Value.int IntKind.i64 (0 : Int)), AV.v (Value.int IntKind.i64 (0 : Int)), AV.v (Value.int IntKind.i64 (0 : Int)), AV.v (Value.int IntKind.i64 (0 : Int))] (31 : Nat)) true, Blk.mk (0 : Nat) (Cont.res (PT × List Nat) (T, S) (fun (x : PT × List Nat) => x.snd) (packI treeC)) true])))))) : LC Try.prog 25 [.ptr 0 s.n 0, .v (.int .i64 id), rcV q] [stB s.n (.pp 2 s.t.root) (.mp 1 s.mn), mpB s.mn s.es s.clock, trB s.t S] R :=
  lc_of_exec (tbl := tbSe) tab_ok tbSe_ok mixed noinv 2 _ Try.func25 rfl Try.ntmps25 (by decide) (by kernel_rfl) (Nat.le_of_ble_eq_true rfl) (@Eq.mpr (execN tab tbSe noinv 2 Try.f25.ntmps [] none 0 (body Try.f25) (argsT [.ptr 0 s.n 0, .v (.int .i64 id), rcV q] 0) [stB s.n (.pp 2 s.t.root) (.mp 1 s.mn), mpB s.mn s.es s.clock, trB s.t S] (post Try.f25 tab (retK R))) _ (by kernel_rfl) h)



def sGeI : Handler := inlH tab tbSe noinv 2 Try.f22 2

set_option maxRecDepth 100000 in
theorem sGe_ok : HOk Try.prog 22 sGeI :=
  inl_ok (tbl := tbSe) tab_ok tbSe_ok mixed noinv 2 _ 2 Try.func22 rfl Try.ntmps22 (by decide) (by kernel_rfl) (Nat.le_of_ble_eq_true rfl)


def tbSg : Tbl := (22, .gen sGeI) :: tbSe

theorem tbSg_ok : TblOk Try.prog tbSg := ⟨sGe_ok, tbSe_ok⟩


set_option maxRecDepth 100000 in
theorem sDrop_vc (s : SS) (S : List Nat) (id : Int) {R : AV → HH → Prop} (h : (∀ (n1 : Nat), s.n = s.n ∧ s.n = s.n ∧ s.mn = s.mn ∧ (∀ (a : Int × RC) (n3 : Nat), (a, n3) ∈ s.es → br (id == a.fst) (∀ (n5 : Nat), n5 = n5 ∧ n5 = n5 ∧ n1 = n1 ∧ n1 = n1 ∧ ∀ (n6 : Nat), n6 = n6 ∧ s.n = s.n ∧ s.mn = s.mn ∧ (∀ (a_2 : Int × RC) (n8 : Nat), (a_2, n8) ∈ s.es → br (id == a_2.fst) (s.n = s.n ∧ n6 = n6 ∧ ∃ (t : PT), ∃ (S_1 : List Nat), some (Blk.mk (0 : Nat) (Cont.res (PT × List Nat) (s.t, S) (fun (x : PT × List Nat) => x.snd) (packI treeC)) true) = some (Blk.mk (0 : Nat) (Cont.res (PT × List Nat) (t, S_1) (fun (x : PT × List Nat) => x.snd) (packI treeC)) true) ∧ s.t.root = t.root ∧ t.hasO id (RC.mk a.snd.t a.snd.l a.snd.b a.snd.r) ∧ t.good ∧ t.sz < (100000 : Nat) ∧ (100000 : Nat) ≤ (100000 : Nat) ∧ ∀ (T : PT), delO t T id (RC.mk a.snd.t a.snd.l a.snd.b a.snd.r) → ∀ (S : List Nat), s.n = s.n ∧ R (AV.v (Value.bool true)) [Blk.mk s.n (Cont.cells [AV.pp (6 : Nat) T.root, AV.mp (1 : Nat) s.mn] (75 : Nat)) true, Blk.mk s.mn (Cont.mape (Int × RC) kyR vlR mkR (dropE s.es n8) s.clock) true, Blk.mk (0 : Nat) (Cont.lst (0 : Nat) (0 : Nat) [] [] none) false, Blk.mk n1 (Cont.cells [AV.v (Value.int IntKind.i64 a.snd.t), AV.v (Value.int IntKind.i64 a.snd.l), AV.v (Value.int IntKind.i64 a.snd.b), AV.v (Value.int IntKind.i64 a.snd.r)] (31 : Nat)) true, Blk.mk n5 (Cont.cells [AV.v (Value.int IntKind.i64 a.snd.t), AV.v (Value.int IntKind.i64 a.snd.l), AV.v (Value.int IntKind.i64 a.snd.b), AV.v (Value.int IntKind.i64 a.snd.r)] (31 : Nat)) true, Blk.mk n6 (Cont.cells [AV.v (Value.int IntKind.i64 a.snd.t), AV.v (Value.int IntKind.i64 a.snd.l), AV.v (Value.int IntKind.i64 a.snd.b), AV.v (Value.int IntKind.i64 a.snd.r)] (31 : Nat)) true, Blk.mk (0 : Nat) (Cont.res (PT × List Nat) (T, S) (fun (x : PT × List Nat) => x.snd) (packI treeC)) true]) True) ∧ ((∀ (a : Int × RC) (b : Nat), (a, b) ∈ s.es → (id == a.fst) = false) → s.n = s.n ∧ n6 = n6 ∧ ∃ (t : PT), ∃ (S_1 : List Nat), some (Blk.mk (0 : Nat) (Cont.res (PT × List Nat) (s.t, S) (fun (x : PT × List Nat) => x.snd) (packI treeC)) true) = some (Blk.mk (0 : Nat) (Cont.res (PT × List Nat) (t, S_1) (fun (x : PT × List Nat) => x.snd) (packI treeC)) true) ∧ s.t.root = t.root ∧ t.hasO id (RC.mk a.snd.t a.snd.l a.snd.b a.snd.r) ∧ t.good ∧ t.sz < (100000 : Nat) ∧ (100000 : Nat) ≤ (100000 : Nat) ∧ ∀ (T : PT), delO t T id (RC.mk a.snd.t a.snd.l a.snd.b a.snd.r) → ∀ (S : List Nat), s.n = s.n ∧ R (AV.v (Value.bool true)) [Blk.mk s.n (Cont.cells [AV.pp (6 : Nat) T.root, AV.mp (1 : Nat) s.mn] (75 : Nat)) true, Blk.mk s.mn (Cont.mape (Int × RC) kyR vlR mkR s.es s.clock) true, Blk.mk (0 : Nat) (Cont.lst (0 : Nat) (0 : Nat) [] [] none) false, Blk.mk n1 (Cont.cells [AV.v (Value.int IntKind.i64 a.snd.t), AV.v (Value.int IntKind.i64 a.snd.l), AV.v (Value.int IntKind.i64 a.snd.b), AV.v (Value.int IntKind.i64 a.snd.r)] (31 : Nat)) true, Blk.mk n5 (Cont.cells [AV.v (Value.int IntKind.i64 a.snd.t), AV.v (Value.int IntKind.i64 a.snd.l), AV.v (Value.int IntKind.i64 a.snd.b), AV.v (Value.int IntKind.i64 a.snd.r)] (31 : Nat)) true, Blk.mk n6 (Cont.cells [AV.v (Value.int IntKind.i64 a.snd.t), AV.v (Value.int IntKind.i64 a.snd.l), AV.v (Value.int IntKind.i64 a.snd.b), AV.v (Value.int IntKind.i64 a.snd.r)] (31 : Nat)) true, Blk.mk (0 : Nat) (Cont.res (PT × List Nat) (T, S) (fun (x : PT × List Nat) => x.snd) (packI treeC)) true])) True) ∧ ((∀ (a : Int × RC) (b : Nat), (a, b) ∈ s.es → (id == a.fst) = false) → ∀ (n3 : Nat), n3 = n3 ∧ n3 = n3 ∧ n1 = n1 ∧ n1 = n1 ∧ ∀ (n4 : Nat), n4 = n4 ∧ R (AV.v (Value.bool false)) [Blk.mk s.n (Cont.cells [AV.pp (2 : Nat) s.t.root, AV.mp (1 : Nat) s.mn] (75 : Nat)) true, Blk.mk s.mn (Cont.mape (Int × RC) kyR vlR mkR s.es s.clock) true, Blk.mk (0 : Nat) (Cont.res (PT × List Nat) (s.t, S) (fun (x : PT × List Nat) => x.snd) (packI treeC)) true, Blk.mk n1 (Cont.cells [AV.v (Value.int IntKind.i64 (0 : Int)), AV.v (Value.int IntKind.i64 (0 : Int)), AV.v (Value.int IntKind.i64 (0 : Int)), AV.v (Value.int IntKind.i64 (0 : Int))] (31 : Nat)) true, Blk.mk n3 (Cont.cells [AV.v (Value.int IntKind.i64 (0 : Int)), AV.v (Value.int IntKind.i64 (0 : Int)), AV.v (Value.int IntKind.i64 (0 : Int)), AV.v (Value.int IntKind.i64 (0 : Int))] (31 : Nat)) true, Blk.mk n4 (Cont.cells [AV.v (Value.int IntKind.i64 (0 : Int)), AV.v (Value.int IntKind.i64 (0 : Int)), AV.v (Value.int IntKind.i64 (0 : Int)), AV.v (Value.int IntKind.i64 (0 : Int))] (31 : Nat)) true]))) : LC Try.prog 26 [.ptr 0 s.n 0, .v (.int .i64 id)] [stB s.n (.pp 2 s.t.root) (.mp 1 s.mn), mpB s.mn s.es s.clock, trB s.t S] R :=
  lc_of_exec (tbl := tbSg) tab_ok tbSg_ok mixed noinv 2 _ Try.func26 rfl Try.ntmps26 (by decide) (by kernel_rfl) (Nat.le_of_ble_eq_true rfl) (@Eq.mpr (execN tab tbSg noinv 2 Try.f26.ntmps [] none 0 (body Try.f26) (argsT [.ptr 0 s.n 0, .v (.int .i64 id)] 0) [stB s.n (.pp 2 s.t.root) (.mp 1 s.mn), mpB s.mn s.es s.clock, trB s.t S] (post Try.f26 tab (retK R))) _ (by kernel_rfl) h)



set_option maxRecDepth 100000 in
theorem sGet_vc (s : SS) (id : Int) {R : AV → Prop} (h : (∀ (n1 : Nat), s.n = s.n ∧ s.n = s.n ∧ s.mn = s.mn ∧ (∀ (a : Int × RC) (n3 : Nat), (a, n3) ∈ s.es → br (id == a.fst) (∀ (n5 : Nat), n5 = n5 ∧ n5 = n5 ∧ n1 = n1 ∧ n1 = n1 ∧ R (AV.tup [AV.agg [AV.v (Value.int IntKind.i64 a.snd.t), AV.v (Value.int IntKind.i64 a.snd.l), AV.v (Value.int IntKind.i64 a.snd.b), AV.v (Value.int IntKind.i64 a.snd.r)], AV.v (Value.bool true)])) True) ∧ ((∀ (a : Int × RC) (b : Nat), (a, b) ∈ s.es → (id == a.fst) = false) → ∀ (n3 : Nat), n3 = n3 ∧ n3 = n3 ∧ n1 = n1 ∧ n1 = n1 ∧ R (AV.tup [AV.agg [AV.v (Value.int IntKind.i64 (0 : Int)), AV.v (Value.int IntKind.i64 (0 : Int)), AV.v (Value.int IntKind.i64 (0 : Int)), AV.v (Value.int IntKind.i64 (0 : Int))], AV.v (Value.bool false)])))) : LC Try.prog 22 [.ptr 0 s.n 0, .v (.int .i64 id)] [⟨s.n, .cells [.v (.pointer s.t.root), .mp 1 s.mn] 75, false⟩, ⟨s.mn, .mape (Int × RC) kyR vlR mkR s.es s.clock, false⟩] (fun z_ _ => R z_) :=
  lc_of_exec (tbl := tbSe) tab_ok tbSe_ok mixed noinv 2 _ Try.func22 rfl Try.ntmps22 (by decide) (by kernel_rfl) (Nat.le_of_ble_eq_true rfl) (@Eq.mpr (execN tab tbSe noinv 2 Try.f22.ntmps [] none 0 (body Try.f22) (argsT [.ptr 0 s.n 0, .v (.int .i64 id)] 0) [⟨s.n, .cells [.v (.pointer s.t.root), .mp 1 s.mn] 75, false⟩, ⟨s.mn, .mape (Int × RC) kyR vlR mkR s.es s.clock, false⟩] (post Try.f22 tab (retK (fun z_ _ => R z_)))) _ (by kernel_rfl) h)



set_option maxRecDepth 100000 in
theorem sCount_vc (s : SS) {R : AV → Prop} (h : (s.n = s.n ∧ s.n = s.n ∧ s.mn = s.mn ∧ R (AV.v (Value.int IntKind.i64 (↑s.es.length : Int))))) : LC Try.prog 27 [.ptr 0 s.n 0] [⟨s.n, .cells [.v (.pointer s.t.root), .mp 1 s.mn] 75, false⟩, ⟨s.mn, .mape (Int × RC) kyR vlR mkR s.es s.clock, false⟩] (fun z_ _ => R z_) :=
  lc_of_exec (tbl := tbSe) tab_ok tbSe_ok mixed noinv 2 _ Try.func27 rfl Try.ntmps27 (by decide) (by kernel_rfl) (Nat.le_of_ble_eq_true rfl) (@Eq.mpr (execN tab tbSe noinv 2 Try.f27.ntmps [] none 0 (body Try.f27) (argsT [.ptr 0 s.n 0] 0) [⟨s.n, .cells [.v (.pointer s.t.root), .mp 1 s.mn] 75, false⟩, ⟨s.mn, .mape (Int × RC) kyR vlR mkR s.es s.clock, false⟩] (post Try.f27 tab (retK (fun z_ _ => R z_)))) _ (by kernel_rfl) h)



set_option maxRecDepth 100000 in
theorem sHeight_vc (s : SS) (S : List Nat) {R : AV → Prop} (h : (s.n = s.n ∧ s.n = s.n ∧ ∃ (t : PT), ∃ (S_1 : List Nat), ∃ (own : Bool), some (Blk.mk (0 : Nat) (Cont.res (PT × List Nat) (s.t, S) (fun (x : PT × List Nat) => x.snd) (packI treeC)) false) = some (Blk.mk (0 : Nat) (Cont.res (PT × List Nat) (t, S_1) (fun (x : PT × List Nat) => x.snd) (packI treeC)) own) ∧ s.t.root = t.root ∧ R (AV.v (Value.int IntKind.i64 t.ht)))) : LC Try.prog 29 [.ptr 0 s.n 0] [⟨s.n, .cells [.pp 2 s.t.root, .mp 1 s.mn] 75, false⟩, ⟨s.mn, .mape (Int × RC) kyR vlR mkR s.es s.clock, false⟩, ⟨0, packC treeC s.t S, false⟩] (fun z_ _ => R z_) :=
  lc_of_exec (tbl := tbSe) tab_ok tbSe_ok mixed noinv 2 _ Try.func29 rfl Try.ntmps29 (by decide) (by kernel_rfl) (Nat.le_of_ble_eq_true rfl) (@Eq.mpr (execN tab tbSe noinv 2 Try.f29.ntmps [] none 0 (body Try.f29) (argsT [.ptr 0 s.n 0] 0) [⟨s.n, .cells [.pp 2 s.t.root, .mp 1 s.mn] 75, false⟩, ⟨s.mn, .mape (Int × RC) kyR vlR mkR s.es s.clock, false⟩, ⟨0, packC treeC s.t S, false⟩] (post Try.f29 tab (retK (fun z_ _ => R z_)))) _ (by kernel_rfl) h)


end Go.Proofs.Ytjnehpljhnlbfaa

