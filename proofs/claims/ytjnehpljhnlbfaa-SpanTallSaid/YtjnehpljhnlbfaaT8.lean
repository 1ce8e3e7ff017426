/- Span: a rectangle less in a tree: conditions. -/
import Derived.Test.YtjnehpljhnlbfaaT7
namespace Go.Sp
open Go.Eng Go.Proofs.Ytjnehpljhnlbfaa

def PT.isLeaf : PT → Bool
  | .leaf => true
  | _ => false
/-- A tree without its first knot, and that. -/
def PT.fst : PT → PT × Nat × Int × RC
  | .leaf => (.leaf, 0, 0, ⟨0, 0, 0, 0⟩)
  | .node n id q hi la l r => if l.isLeaf then (r, n, id, q) else ((PT.node n id q hi la l.fst.1 r).bal, l.fst.2)
/-- A rectangle less. -/
def PT.del (id : Int) (q : RC) : PT → PT
  | .leaf => .leaf
  | .node n kid kq h b l r =>
    if ordV q.t id kq.t kid ≠ 0 then (if ordV q.t id kq.t kid < 0 then (PT.node n kid kq h b (l.del id q) r).bal else (PT.node n kid kq h b l (r.del id q)).bal)
    else if l.isLeaf then r else if r.isLeaf then l else (PT.node r.fst.2.1 r.fst.2.2.1 r.fst.2.2.2 0 0 l r.fst.1).bal
/-- Is it in? -/
def PT.has (id : Int) (q : RC) : PT → Bool
  | .leaf => false
  | .node _ kid kq _ _ l r => if ordV q.t id kq.t kid ≠ 0 then (if ordV q.t id kq.t kid < 0 then l.has id q else r.has id q) else true

structure PT.hasO (t : PT) (id : Int) (q : RC) : Prop where
  h : t.has id q = true
structure fstO (t T : PT) (n : Nat) (id : Int) (q : RC) : Prop where
  h : t.fst = (T, n, id, q)
structure delO (t T : PT) (id : Int) (q : RC) : Prop where
  h : T = t.del id q
structure someO (t : PT) : Prop where
  h : t.isLeaf = false

end Go.Sp
namespace Go.Eng
open Go Go.Sp Go.Proofs.Ytjnehpljhnlbfaa

def fstH (m : Nat) : Handler := fun _ args H K =>
  match args with
  | [.pp i p] => ∃ (t : PT) (S : List Nat), nth H i = some (trB t S) ∧ p = t.root ∧ someO t ∧ t.good ∧ t.sz < m ∧ m ≤ 100000 ∧
      ∀ (T : PT) (n : Nat) (id qt ql qb qr : Int) (a b : Option Addr) (h l : Int), fstO t T n id ⟨qt, ql, qb, qr⟩ → ∀ S, K (.ret (.tup [.pp H.length T.root, .ptr (H.length + 1) n 0])) (holes H [i] ++ [trB T S, ndB n id ⟨qt, ql, qb, qr⟩ (.v (.pointer a)) (.v (.pointer b)) h l])
  | _ => False

def delH (m : Nat) : Handler := fun _ args H K =>
  match args with
  | [.pp i p, .v (.int .i64 id), .agg [.v (.int .i64 qt), .v (.int .i64 ql), .v (.int .i64 qb), .v (.int .i64 qr)]] =>
    ∃ (t : PT) (S : List Nat), nth H i = some (trB t S) ∧ p = t.root ∧ t.hasO id ⟨qt, ql, qb, qr⟩ ∧ t.good ∧ t.sz < m ∧ m ≤ 100000 ∧
      ∀ (T : PT), delO t T id ⟨qt, ql, qb, qr⟩ → ∀ S, K (.ret (.pp H.length T.root)) (holes H [i] ++ [trB T S])
  | _ => False

end Go.Eng
namespace Go.Proofs.Ytjnehpljhnlbfaa
open Go Go.Eng Go.Sp
set_option linter.unusedVariables false
set_option linter.unusedSimpArgs false

def tbFi (m : Nat) : Tbl := (62, .gen (fstH m)) :: (61, .gen balH) :: []


set_option maxRecDepth 100000 in
theorem fi_vc (m : Nat) (hm : TblOk Try.prog (tbFi m)) (n : Nat) (id : Int) (q : RC) (hi la : Int) (l r : PT) (Sl Sr : List Nat) {R : AV → HH → Prop} (h : (n = n ∧
 br
 (match l.root with
 | some val => false
 | none => true)
 (n = n ∧ R (AV.tup [AV.pp (2 : Nat) r.root, AV.ptr (0 : Nat) n (0 : Nat)]) [Blk.mk n (Cont.cells [AV.v (Value.int IntKind.i64 id), AV.v (Value.int IntKind.i64 q.t), AV.v (Value.int IntKind.i64 q.l), AV.v (Value.int IntKind.i64 q.b), AV.v (Value.int IntKind.i64 q.r), AV.pp (1 : Nat) l.root, AV.pp (2 : Nat) r.root, AV.v (Value.int IntKind.i64 hi), AV.v (Value.int IntKind.i64 la)] (81 : Nat)) true, Blk.mk (0 : Nat) (Cont.res (PT × List Nat) (l, Sl) (fun (x : PT × List Nat) => x.snd) (packI treeC)) true, Blk.mk (0 : Nat) (Cont.res (PT × List Nat) (r, Sr) (fun (x : PT × List Nat) => x.snd) (packI treeC)) true]) (n = n ∧ ∃ (t : PT), ∃ (S : List Nat), some (Blk.mk (0 : Nat) (Cont.res (PT × List Nat) (l, Sl) (fun (x : PT × List Nat) => x.snd) (packI treeC)) true) = some (Blk.mk (0 : Nat) (Cont.res (PT × List Nat) (t, S) (fun (x : PT × List Nat) => x.snd) (packI treeC)) true) ∧ l.root = t.root ∧ someO t ∧ t.good ∧ t.sz < m ∧ m ≤ (100000 : Nat) ∧ ∀ (T : PT) (n4 : Nat) (id_1 qt ql qb qr : Int) (a b : Option Addr) (h l : Int), fstO t T n4 id_1 (RC.mk qt ql qb qr) → ∀ (S : List Nat), n = n ∧ n = n ∧ (3 : Nat) ≠ (2 : Nat) ∧ ∃ (l_1 : PT), ∃ (r_1 : PT), ∃ (Sl : List Nat), ∃ (Sr_1 : List Nat), some (Blk.mk (0 : Nat) (Cont.res (PT × List Nat) (T, S) (fun (x : PT × List Nat) => x.snd) (packI treeC)) true) = some (Blk.mk (0 : Nat) (Cont.res (PT × List Nat) (l_1, Sl) (fun (x : PT × List Nat) => x.snd) (packI treeC)) true) ∧ some (Blk.mk (0 : Nat) (Cont.res (PT × List Nat) (r, Sr) (fun (x : PT × List Nat) => x.snd) (packI treeC)) true) = some (Blk.mk (0 : Nat) (Cont.res (PT × List Nat) (r_1, Sr_1) (fun (x : PT × List Nat) => x.snd) (packI treeC)) true) ∧ T.root = l_1.root ∧ r.root = r_1.root ∧ l_1.low ∧ r_1.low ∧ ∀ (T : PT), T = (PT.node n id (RC.mk q.t q.l q.b q.r) hi la l_1 r_1).bal → ∀ (S : List Nat), R (AV.tup [AV.pp (5 : Nat) T.root, AV.ptr (4 : Nat) n4 (0 : Nat)]) [Blk.mk (0 : Nat) (Cont.lst (0 : Nat) (0 : Nat) [] [] none) false, Blk.mk (0 : Nat) (Cont.lst (0 : Nat) (0 : Nat) [] [] none) false, Blk.mk (0 : Nat) (Cont.lst (0 : Nat) (0 : Nat) [] [] none) false, Blk.mk (0 : Nat) (Cont.lst (0 : Nat) (0 : Nat) [] [] none) false, Blk.mk n4 (Cont.cells [AV.v (Value.int IntKind.i64 id_1), AV.v (Value.int IntKind.i64 (RC.mk qt ql qb qr).t), AV.v (Value.int IntKind.i64 (RC.mk qt ql qb qr).l), AV.v (Value.int IntKind.i64 (RC.mk qt ql qb qr).b), AV.v (Value.int IntKind.i64 (RC.mk qt ql qb qr).r), AV.v (Value.pointer a), AV.v (Value.pointer b), AV.v (Value.int IntKind.i64 h), AV.v (Value.int IntKind.i64 l)] (81 : Nat)) true, Blk.mk (0 : Nat) (Cont.res (PT × List Nat) (T, S) (fun (x : PT × List Nat) => x.snd) (packI treeC)) true]))) : LC Try.prog 62 [.ptr 0 n 0] [ndB n id q (.pp 1 l.root) (.pp 2 r.root) hi la, trB l Sl, trB r Sr] R :=
  lc_of_exec (tbl := (tbFi m)) tab_ok hm mixed noinv 2 _ Try.func62 rfl Try.ntmps62 (by decide) (by kernel_rfl) (Nat.le_of_ble_eq_true rfl) (@Eq.mpr (execN tab (tbFi m) noinv 2 Try.f62.ntmps [] none 0 (body Try.f62) (argsT [.ptr 0 n 0] 0) [ndB n id q (.pp 1 l.root) (.pp 2 r.root) hi la, trB l Sl, trB r Sr] (post Try.f62 tab (retK R))) _ (by kernel_rfl) h)


def tbDe (m k : Nat) : Tbl := (43, .gen (delH m)) :: (62, .gen (fstH k)) :: (59, .gen sidI) :: (60, .gen orH) :: (61, .gen balH) :: []


set_option maxRecDepth 100000 in
theorem de_vc (m k : Nat) (hm : TblOk Try.prog (tbDe m k)) (n : Nat) (kid : Int) (kq : RC) (hi la : Int) (l r : PT) (Sl Sr : List Nat) (id qt ql qb qr : Int) {R : AV → HH → Prop} (h : (∀ (n1 : Nat),
 n1 = n1 ∧
 n = n ∧
 br (ordV qt id kq.t kid != (0 : Int)) (br (decide (ordV qt id kq.t kid < (0 : Int))) (n = n ∧ n1 = n1 ∧ ∃ (t : PT), ∃ (S : List Nat), some (Blk.mk (0 : Nat) (Cont.res (PT × List Nat) (l, Sl) (fun (x : PT × List Nat) => x.snd) (packI treeC)) true) = some (Blk.mk (0 : Nat) (Cont.res (PT × List Nat) (t, S) (fun (x : PT × List Nat) => x.snd) (packI treeC)) true) ∧ l.root = t.root ∧ t.hasO id (RC.mk qt ql qb qr) ∧ t.good ∧ t.sz < m ∧ m ≤ (100000 : Nat) ∧ ∀ (T : PT), delO t T id (RC.mk qt ql qb qr) → ∀ (S : List Nat), n = n ∧ n = n ∧ (4 : Nat) ≠ (2 : Nat) ∧ ∃ (l : PT), ∃ (r_1 : PT), ∃ (Sl : List Nat), ∃ (Sr_1 : List Nat), some (Blk.mk (0 : Nat) (Cont.res (PT × List Nat) (T, S) (fun (x : PT × List Nat) => x.snd) (packI treeC)) true) = some (Blk.mk (0 : Nat) (Cont.res (PT × List Nat) (l, Sl) (fun (x : PT × List Nat) => x.snd) (packI treeC)) true) ∧ some (Blk.mk (0 : Nat) (Cont.res (PT × List Nat) (r, Sr) (fun (x : PT × List Nat) => x.snd) (packI treeC)) true) = some (Blk.mk (0 : Nat) (Cont.res (PT × List Nat) (r_1, Sr_1) (fun (x : PT × List Nat) => x.snd) (packI treeC)) true) ∧ T.root = l.root ∧ r.root = r_1.root ∧ l.low ∧ r_1.low ∧ ∀ (T : PT), T = (PT.node n kid (RC.mk kq.t kq.l kq.b kq.r) hi la l r_1).bal → ∀ (S : List Nat), R (AV.pp (5 : Nat) T.root) [Blk.mk (0 : Nat) (Cont.lst (0 : Nat) (0 : Nat) [] [] none) false, Blk.mk (0 : Nat) (Cont.lst (0 : Nat) (0 : Nat) [] [] none) false, Blk.mk (0 : Nat) (Cont.lst (0 : Nat) (0 : Nat) [] [] none) false, Blk.mk n1 (Cont.cells [AV.v (Value.int IntKind.i64 qt), AV.v (Value.int IntKind.i64 ql), AV.v (Value.int IntKind.i64 qb), AV.v (Value.int IntKind.i64 qr)] (31 : Nat)) true, Blk.mk (0 : Nat) (Cont.lst (0 : Nat) (0 : Nat) [] [] none) false, Blk.mk (0 : Nat) (Cont.res (PT × List Nat) (T, S) (fun (x : PT × List Nat) => x.snd) (packI treeC)) true]) (n = n ∧ n1 = n1 ∧ ∃ (t : PT), ∃ (S : List Nat), some (Blk.mk (0 : Nat) (Cont.res (PT × List Nat) (r, Sr) (fun (x : PT × List Nat) => x.snd) (packI treeC)) true) = some (Blk.mk (0 : Nat) (Cont.res (PT × List Nat) (t, S) (fun (x : PT × List Nat) => x.snd) (packI treeC)) true) ∧ r.root = t.root ∧ t.hasO id (RC.mk qt ql qb qr) ∧ t.good ∧ t.sz < m ∧ m ≤ (100000 : Nat) ∧ ∀ (T : PT), delO t T id (RC.mk qt ql qb qr) → ∀ (S : List Nat), n = n ∧ n = n ∧ (1 : Nat) ≠ (4 : Nat) ∧ ∃ (l_1 : PT), ∃ (r : PT), ∃ (Sl_1 : List Nat), ∃ (Sr : List Nat), some (Blk.mk (0 : Nat) (Cont.res (PT × List Nat) (l, Sl) (fun (x : PT × List Nat) => x.snd) (packI treeC)) true) = some (Blk.mk (0 : Nat) (Cont.res (PT × List Nat) (l_1, Sl_1) (fun (x : PT × List Nat) => x.snd) (packI treeC)) true) ∧ some (Blk.mk (0 : Nat) (Cont.res (PT × List Nat) (T, S) (fun (x : PT × List Nat) => x.snd) (packI treeC)) true) = some (Blk.mk (0 : Nat) (Cont.res (PT × List Nat) (r, Sr) (fun (x : PT × List Nat) => x.snd) (packI treeC)) true) ∧ l.root = l_1.root ∧ T.root = r.root ∧ l_1.low ∧ r.low ∧ ∀ (T : PT), T = (PT.node n kid (RC.mk kq.t kq.l kq.b kq.r) hi la l_1 r).bal → ∀ (S : List Nat), R (AV.pp (5 : Nat) T.root) [Blk.mk (0 : Nat) (Cont.lst (0 : Nat) (0 : Nat) [] [] none) false, Blk.mk (0 : Nat) (Cont.lst (0 : Nat) (0 : Nat) [] [] none) false, Blk.mk (0 : Nat) (Cont.lst (0 : Nat) (0 : Nat) [] [] none) false, Blk.mk n1 (Cont.cells [AV.v (Value.int IntKind.i64 qt), AV.v (Value.int IntKind.i64 ql), AV.v (Value.int IntKind.i64 qb), AV.v (Value.int IntKind.i64 qr)] (31 : Nat)) true, Blk.mk (0 : Nat) (Cont.lst (0 : Nat) (0 : Nat) [] [] none) false, Blk.mk (0 : Nat) (Cont.res (PT × List Nat) (T, S) (fun (x : PT × List Nat) => x.snd) (packI treeC)) true]))
 (n = n ∧
 br
 (match l.root with
 | some val => false
 | none => true)
 (n = n ∧ R (AV.pp (2 : Nat) r.root) [Blk.mk n (Cont.cells [AV.v (Value.int IntKind.i64 kid), AV.v (Value.int IntKind.i64 kq.t), AV.v (Value.int IntKind.i64 kq.l), AV.v (Value.int IntKind.i64 kq.b), AV.v (Value.int IntKind.i64 kq.r), AV.pp (1 : Nat) l.root, AV.pp (2 : Nat) r.root, AV.v (Value.int IntKind.i64 hi), AV.v (Value.int IntKind.i64 la)] (81 : Nat)) true, Blk.mk (0 : Nat) (Cont.res (PT × List Nat) (l, Sl) (fun (x : PT × List Nat) => x.snd) (packI treeC)) true, Blk.mk (0 : Nat) (Cont.res (PT × List Nat) (r, Sr) (fun (x : PT × List Nat) => x.snd) (packI treeC)) true, Blk.mk n1 (Cont.cells [AV.v (Value.int IntKind.i64 qt), AV.v (Value.int IntKind.i64 ql), AV.v (Value.int IntKind.i64 qb), AV.v (Value.int IntKind.i64 qr)] (31 : Nat)) true])
 (n = n ∧
 br
 (match r.root with
 | some val => false
 | none => true)
 (n = n ∧ R (AV.pp (1 : Nat) l.root) [Blk.mk n (Cont.cells [AV.v (Value.int IntKind.i64 kid), AV.v (Value.int IntKind.i64 kq.t), AV.v (Value.int IntKind.i64 kq.l), AV.v (Value.int IntKind.i64 kq.b), AV.v (Value.int IntKind.i64 kq.r), AV.pp (1 : Nat) l.root, AV.pp (2 : Nat) r.root, AV.v (Value.int IntKind.i64 hi), AV.v (Value.int IntKind.i64 la)] (81 : Nat)) true, Blk.mk (0 : Nat) (Cont.res (PT × List Nat) (l, Sl) (fun (x : PT × List Nat) => x.snd) (packI treeC)) true, Blk.mk (0 : Nat) (Cont.res (PT × List Nat) (r, Sr) (fun (x : PT × List Nat) => x.snd) (packI treeC)) true, Blk.mk n1 (Cont.cells [AV.v (Value.int IntKind.i64 qt), AV.v (Value.int IntKind.i64 ql), AV.v (Value.int IntKind.i64 qb), AV.v (Value.int IntKind.i64 qr)] (31 : Nat)) true]) (n = n ∧ ∃ (t : PT), ∃ (S : List Nat), some (Blk.mk (0 : Nat) (Cont.res (PT × List Nat) (r, Sr) (fun (x : PT × List Nat) => x.snd) (packI treeC)) true) = some (Blk.mk (0 : Nat) (Cont.res (PT × List Nat) (t, S) (fun (x : PT × List Nat) => x.snd) (packI treeC)) true) ∧ r.root = t.root ∧ someO t ∧ t.good ∧ t.sz < k ∧ k ≤ (100000 : Nat) ∧ ∀ (T : PT) (n5 : Nat) (id qt_1 ql_1 qb_1 qr_1 : Int) (a b : Option Addr) (h l_1 : Int), fstO t T n5 id (RC.mk qt_1 ql_1 qb_1 qr_1) → ∀ (S : List Nat), n = n ∧ n5 = n5 ∧ n5 = n5 ∧ n5 = n5 ∧ (1 : Nat) ≠ (4 : Nat) ∧ ∃ (l_2 : PT), ∃ (r_1 : PT), ∃ (Sl_1 : List Nat), ∃ (Sr : List Nat), some (Blk.mk (0 : Nat) (Cont.res (PT × List Nat) (l, Sl) (fun (x : PT × List Nat) => x.snd) (packI treeC)) true) = some (Blk.mk (0 : Nat) (Cont.res (PT × List Nat) (l_2, Sl_1) (fun (x : PT × List Nat) => x.snd) (packI treeC)) true) ∧ some (Blk.mk (0 : Nat) (Cont.res (PT × List Nat) (T, S) (fun (x : PT × List Nat) => x.snd) (packI treeC)) true) = some (Blk.mk (0 : Nat) (Cont.res (PT × List Nat) (r_1, Sr) (fun (x : PT × List Nat) => x.snd) (packI treeC)) true) ∧ l.root = l_2.root ∧ T.root = r_1.root ∧ l_2.low ∧ r_1.low ∧ ∀ (T : PT), T = (PT.node n5 id (RC.mk (RC.mk qt_1 ql_1 qb_1 qr_1).t (RC.mk qt_1 ql_1 qb_1 qr_1).l (RC.mk qt_1 ql_1 qb_1 qr_1).b (RC.mk qt_1 ql_1 qb_1 qr_1).r) h l_1 l_2 r_1).bal → ∀ (S : List Nat), R (AV.pp (6 : Nat) T.root) [Blk.mk n (Cont.cells [AV.v (Value.int IntKind.i64 kid), AV.v (Value.int IntKind.i64 kq.t), AV.v (Value.int IntKind.i64 kq.l), AV.v (Value.int IntKind.i64 kq.b), AV.v (Value.int IntKind.i64 kq.r), AV.pp (1 : Nat) l.root, AV.pp (2 : Nat) r.root, AV.v (Value.int IntKind.i64 hi), AV.v (Value.int IntKind.i64 la)] (81 : Nat)) true, Blk.mk (0 : Nat) (Cont.lst (0 : Nat) (0 : Nat) [] [] none) false, Blk.mk (0 : Nat) (Cont.lst (0 : Nat) (0 : Nat) [] [] none) false, Blk.mk n1 (Cont.cells [AV.v (Value.int IntKind.i64 qt), AV.v (Value.int IntKind.i64 ql), AV.v (Value.int IntKind.i64 qb), AV.v (Value.int IntKind.i64 qr)] (31 : Nat)) true, Blk.mk (0 : Nat) (Cont.lst (0 : Nat) (0 : Nat) [] [] none) false, Blk.mk (0 : Nat) (Cont.lst (0 : Nat) (0 : Nat) [] [] none) false, Blk.mk (0 : Nat) (Cont.res (PT × List Nat) (T, S) (fun (x : PT × List Nat) => x.snd) (packI treeC)) true]))))) : LC Try.prog 43 [.ptr 0 n 0, .v (.int .i64 id), .agg [.v (.int .i64 qt), .v (.int .i64 ql), .v (.int .i64 qb), .v (.int .i64 qr)]] [ndB n kid kq (.pp 1 l.root) (.pp 2 r.root) hi la, trB l Sl, trB r Sr] R :=
  lc_of_exec (tbl := (tbDe m k)) tab_ok hm mixed noinv 2 _ Try.func43 rfl Try.ntmps43 (by decide) (by kernel_rfl) (Nat.le_of_ble_eq_true rfl) (@Eq.mpr (execN tab (tbDe m k) noinv 2 Try.f43.ntmps [] none 0 (body Try.f43) (argsT [.ptr 0 n 0, .v (.int .i64 id), .agg [.v (.int .i64 qt), .v (.int .i64 ql), .v (.int .i64 qb), .v (.int .i64 qr)]] 0) [ndB n kid kq (.pp 1 l.root) (.pp 2 r.root) hi la, trB l Sl, trB r Sr] (post Try.f43 tab (retK R))) _ (by kernel_rfl) h)


end Go.Proofs.Ytjnehpljhnlbfaa

