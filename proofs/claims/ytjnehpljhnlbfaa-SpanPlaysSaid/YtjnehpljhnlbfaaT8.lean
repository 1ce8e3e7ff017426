import Derived.Test.YtjnehpljhnlbfaaT6
namespace Go.Sp
open Go.Eng Go.Proofs.Ytjnehpljhnlbfaa
def PT.isLeaf : PT → Bool
  | .leaf => true
  | _ => false
def PT.fst : PT → PT × Nat × Int × RC
  | .leaf => (.leaf, 0, 0, ⟨0, 0, 0, 0⟩)
  | .node n id q hi la l r => if l.isLeaf then (r, n, id, q) else ((PT.node n id q hi la l.fst.1 r).bal, l.fst.2)
def PT.del (id : Int) (q : RC) : PT → PT
  | .leaf => .leaf
  | .node n kid kq h b l r =>
    if ordV q.t id kq.t kid ≠ 0 then (if ordV q.t id kq.t kid < 0 then (PT.node n kid kq h b (l.del id q) r).bal else (PT.node n kid kq h b l (r.del id q)).bal)
    else if l.isLeaf then r else if r.isLeaf then l else (PT.node r.fst.2.1 r.fst.2.2.1 r.fst.2.2.2 0 0 l r.fst.1).bal
def PT.has (id : Int) (q : RC) : PT → Bool
  | .leaf => false
  | .node _ kid kq _ _ l r => if ordV q.t id kq.t kid ≠ 0 then (if ordV q.t id kq.t kid < 0 then l.has id q else r.has id q) else true
structure PT.hasO (t : PT) (id : Int) (q : RC) : Prop where
  h : t.has id q = true
structure fstO (t T : PT) (n : Nat) (id : Int) (q : RC) : Prop where
  h : t.fst = (T, n, id, q)
structure delO (t T : PT) (id : Int) (q : RC) : Prop where
  h : T = t.del id q
structure someO (t : PT) : Prop where
  h : t.isLeaf = false
end Go.Sp
namespace Go.Eng
open Go Go.Sp Go.Proofs.Ytjnehpljhnlbfaa
def fstH (m : Nat) : Handler := fun _ args H K =>
  match args with
  | [.pp i p] => ∃ (t : PT) (S : List Nat), nth H i = some (trB t S) ∧ p = t.root ∧ someO t ∧ t.good ∧ t.sz < m ∧ m ≤ 100000 ∧
      ∀ (T : PT) (n : Nat) (id qt ql qb qr : Int) (a b : Option Addr) (h l : Int), fstO t T n id ⟨qt, ql, qb, qr⟩ → ∀ S, K (.ret (.tup [.pp H.length T.root, .ptr (H.length + 1) n 0])) (holes H [i] ++ [trB T S, ndB n id ⟨qt, ql, qb, qr⟩ (.v (.pointer a)) (.v (.pointer b)) h l])
  | _ => False
def delH (m : Nat) : Handler := fun _ args H K =>
  match args with
  | [.pp i p, .v (.int .i64 id), .agg [.v (.int .i64 qt), .v (.int .i64 ql), .v (.int .i64 qb), .v (.int .i64 qr)]] =>
    ∃ (t : PT) (S : List Nat), nth H i = some (trB t S) ∧ p = t.root ∧ t.hasO id ⟨qt, ql, qb, qr⟩ ∧ t.good ∧ t.sz < m ∧ m ≤ 100000 ∧
      ∀ (T : PT), delO t T id ⟨qt, ql, qb, qr⟩ → ∀ S, K (.ret (.pp H.length T.root)) (holes H [i] ++ [trB T S])
  | _ => False
end Go.Eng
namespace Go.Proofs.Ytjnehpljhnlbfaa
open Go Go.Eng Go.Sp
set_option linter.unusedVariables false
set_option linter.unusedSimpArgs false
def tbFi (m : Nat) : Tbl := (62, .gen (fstH m)) :: (61, .gen balH) :: []
set_option maxRecDepth 100000 in
theorem fi_vc (m : Nat) (hm : TblOk Try.prog (tbFi m)) (n : Nat) (id : Int) (q : RC) (hi la : Int) (l r : PT) (Sl Sr : List Nat) {R : AV → HH → Prop} (h : (n = n ∧
 br
 (match l.root with
 | some val => false
 | none => true)
 (n = n ∧ R (AV.tup [AV.pp (2 : Nat) r.root, AV.ptr (0 : Nat) n (0 : Nat)]) [Blk.mk n (Cont.cells [AV.v (Value.int IntKind.i64 id), AV.v (Value.int IntKind.i64 q.t), AV.v (Value.int IntKind.i64 q.l), AV.v (Value.int IntKind.i64 q.b), AV.v (Value.int IntKind.i64 q.r), AV.pp (1 : Nat) l.root, AV.pp (2 : Nat) r.root, AV.v (Value.int IntKind.i64 hi), AV.v (Value.int IntKind.i64 la)] (81 : Nat)) true, Blk.mk (0 : Nat) (Cont.res (PT × List Nat) (l, Sl) (fun (x : PT × List Nat) => x.snd) (packI treeC)) true, Blk.mk (0 : Nat) (Cont.res (PT × List Nat) (r, Sr) (fun (x : PT × List Nat) => x.snd) (packI treeC)) true]) (n = n ∧ ∃ (t : PT), ∃ (S : List Nat), some (Blk.mk (0 : Nat) (Cont.res (PT × List Nat) (l, Sl) (fun (x : PT × List Nat) => x.snd) (packI treeC)) true) = some (Blk.mk (0 : Nat) (Cont.res (PT × List Nat) (t, S) (fun (x : PT × List Nat) => x.snd) (packI treeC)) true) ∧ l.root = t.root ∧ someO t ∧ t.good ∧ t.sz < m ∧ m ≤ (100000 : Nat) ∧ ∀ (T : PT) (n4 : Nat) (id_1 qt ql qb qr : Int) (a b : Option Addr) (h l : Int), fstO t T n4 id_1 (RC.mk qt ql qb qr) → ∀ (S : List Nat), n = n ∧ n = n ∧ (3 : Nat) ≠ (2 : Nat) ∧ ∃ (l_1 : PT), ∃ (r_1 : PT), ∃ (Sl : List Nat), ∃ (Sr_1 : List Nat), some (Blk.mk (0 : Nat) (Cont.res (PT × List Nat) (T, S) (fun (x : PT × List Nat) => x.snd) (packI treeC)) true) = some (Blk.mk (0 : Nat) (Cont.res (PT × List Nat) (l_1, Sl) (fun (x : PT × List Nat) => x.snd) (packI treeC)) true) ∧ some (Blk.mk (0 : Nat) (Cont.res (PT × List Nat) (r, Sr) (fun (x : PT × List Nat) => x.snd) (packI treeC)) true) = some (Blk.mk (0 : Nat) (Cont.res (PT × List Nat) (r_1, Sr_1) (fun (x : PT × List Nat) => x.snd) (packI treeC)) true) ∧ T.root = l_1.root ∧ r.root = r_1.root ∧ l_1.low ∧ r_1.low ∧ ∀ (T : PT), T = (PT.node n id (RC.mk q.t q.l q.b q.r) hi la l_1 r_1).bal → ∀ (S : List Nat), R (AV.tup [AV.pp (5 : Nat) T.root, AV.ptr (4 : Nat) n4 (0 : Nat)]) [Blk.mk (0 : Nat) (Cont.lst (0 : Nat) (0 : Nat) [] [] none) false, Blk.mk (0 : Nat) (Cont.lst (0 : Nat) (0 : Nat) [] [] none) false, Blk.mk (0 : Nat) (Cont.lst (0 : Nat) (0 : Nat) [] [] none) false, Blk.mk (0 : Nat) (Cont.lst (0 : Nat) (0 : Nat) [] [] none) false, Blk.mk n4 (Cont.cells [AV.v (Value.int IntKind.i64 id_1), AV.v (Value.int IntKind.i64 (RC.mk qt ql qb qr).t), AV.v (Value.int IntKind.i64 (RC.mk qt ql qb qr).l), AV.v (Value.int IntKind.i64 (RC.mk qt ql qb qr).b), AV.v (Value.int IntKind.i64 (RC.mk qt ql qb qr).r), AV.v (Value.pointer a), AV.v (Value.pointer b), AV.v (Value.int IntKind.i64 h), AV.v (Value.int IntKind.i64 l)] (81 : Nat)) true, Blk.mk (0 : Nat) (Cont.res (PT × List Nat) (T, S) (fun (x : PT × List Nat) => x.snd) (packI treeC)) true]))) : LC Try.prog 62 [.ptr 0 n 0] [ndB n id q (.pp 1 l.root) (.pp 2 r.root) hi la, trB l Sl, trB r Sr] R :=
  lc_of_exec (tbl := (tbFi m)) tab_ok hm mixed noinv 2 _ Try.func62 rfl Try.ntmps62 (by decide) (by kernel_rfl) (Nat.le_of_ble_eq_true rfl) (@Eq.mpr (execN tab (tbFi m) noinv 2 Try.f62.ntmps [] none 0 (body Try.f62) (argsT [.ptr 0 n 0] 0) [ndB n id q (.pp 1 l.root) (.pp 2 r.root) hi la, trB l Sl, trB r Sr] (post Try.f62 tab (retK R))) _ (by kernel_rfl) h)
def tbDe (m k : Nat) : Tbl := (43, .gen (delH m)) :: (62, .gen (fstH k)) :: (59, .gen sidI) :: (60, .gen orH) :: (61, .gen balH) :: []
set_option maxRecDepth 100000 in
theorem de_vc (m k : Nat) (hm : TblOk Try.prog (tbDe m k)) (n : Nat) (kid : Int) (kq : RC) (hi la : Int) (l r : PT) (Sl Sr : List Nat) (id qt ql qb qr : Int) {R : AV → HH → Prop} (h : (∀ (n1 : Nat), n1 = n1 ∧ n = n ∧ br (ordV qt id kq.t kid != (0 : Int)) (br (decide (ordV qt id kq.t kid < (0 : Int))) (n = n ∧ n1 = n1 ∧ ∃ (t : PT), ∃ (S : List Nat), some (Blk.mk 0 (Cont.res (PT × List Nat) (l, Sl) (fun (x : PT × List Nat) => x.snd) (packI treeC)) true) = some (Blk.mk 0 (Cont.res (PT × List Nat) (t, S) (fun (x : PT × List Nat) => x.snd) (packI treeC)) true) ∧ l.root = t.root ∧ t.hasO id (RC.mk qt ql qb qr) ∧ t.good ∧ t.sz < m ∧ m ≤ 100000 ∧ ∀ (T : PT), delO t T id (RC.mk qt ql qb qr) → ∀ (S : List Nat), n = n ∧ n = n ∧ 4 ≠ 2 ∧ ∃ (l : PT), ∃ (r_1 : PT), ∃ (Sl : List Nat), ∃ (Sr_1 : List Nat), some (Blk.mk 0 (Cont.res (PT × List Nat) (T, S) (fun (x : PT × List Nat) => x.snd) (packI treeC)) true) = some (Blk.mk 0 (Cont.res (PT × List Nat) (l, Sl) (fun (x : PT × List Nat) => x.snd) (packI treeC)) true) ∧ some (Blk.mk 0 (Cont.res (PT × List Nat) (r, Sr) (fun (x : PT × List Nat) => x.snd) (packI treeC)) true) = some (Blk.mk 0 (Cont.res (PT × List Nat) (r_1, Sr_1) (fun (x : PT × List Nat) => x.snd) (packI treeC)) true) ∧ T.root = l.root ∧ r.root = r_1.root ∧ l.low ∧ r_1.low ∧ ∀ (T : PT), T = (PT.node n kid (RC.mk kq.t kq.l kq.b kq.r) hi la l r_1).bal → ∀ (S : List Nat), R (AV.pp 5 T.root) [Blk.mk 0 (Cont.lst 0 0 [] [] none) false, Blk.mk 0 (Cont.lst 0 0 [] [] none) false, Blk.mk 0 (Cont.lst 0 0 [] [] none) false, Blk.mk n1 (Cont.cells [i6 qt, i6 ql, i6 qb, i6 qr] 31) true, Blk.mk 0 (Cont.lst 0 0 [] [] none) false, Blk.mk 0 (Cont.res (PT × List Nat) (T, S) (fun (x : PT
 × List Nat) => x.snd) (packI treeC)) true]) (n = n ∧ n1 = n1 ∧ ∃ (t : PT), ∃ (S : List Nat), some (Blk.mk 0 (Cont.res (PT × List Nat) (r, Sr) (fun (x : PT × List Nat) => x.snd) (packI treeC)) true) = some (Blk.mk 0 (Cont.res (PT × List Nat) (t, S) (fun (x : PT × List Nat) => x.snd) (packI treeC)) true) ∧ r.root = t.root ∧ t.hasO id (RC.mk qt ql qb qr) ∧ t.good ∧ t.sz < m ∧ m ≤ 100000 ∧ ∀ (T : PT), delO t T id (RC.mk qt ql qb qr) → ∀ (S : List Nat), n = n ∧ n = n ∧ 1 ≠ 4 ∧ ∃ (l_1 : PT), ∃ (r : PT), ∃ (Sl_1 : List Nat), ∃ (Sr : List Nat), some (Blk.mk 0 (Cont.res (PT × List Nat) (l, Sl) (fun (x : PT × List Nat) => x.snd) (packI treeC)) true) = some (Blk.mk 0 (Cont.res (PT × List Nat) (l_1, Sl_1) (fun (x : PT × List Nat) => x.snd) (packI treeC)) true) ∧ some (Blk.mk 0 (Cont.res (PT × List Nat) (T, S) (fun (x : PT × List Nat) => x.snd) (packI treeC)) true) = some (Blk.mk 0 (Cont.res (PT × List Nat) (r, Sr) (fun (x : PT × List Nat) => x.snd) (packI treeC)) true) ∧ l.root = l_1.root ∧ T.root = r.root ∧ l_1.low ∧ r.low ∧ ∀ (T : PT), T = (PT.node n kid (RC.mk kq.t kq.l kq.b kq.r) hi la l_1 r).bal → ∀ (S : List Nat), R (AV.pp 5 T.root) [Blk.mk 0 (Cont.lst 0 0 [] [] none) false, Blk.mk 0 (Cont.lst 0 0 [] [] none) false, Blk.mk 0 (Cont.lst 0 0 [] [] none) false, Blk.mk n1 (Cont.cells [i6 qt, i6 ql, i6 qb, i6 qr] 31) true, Blk.mk 0 (Cont.lst 0 0 [] [] none) false, Blk.mk 0 (Cont.res (PT × List Nat) (T, S) (fun (x : PT × List Nat) => x.snd) (packI treeC)) true])) (n = n ∧ br (match l.root
 with | some val => false | none => true) (n = n ∧ R (AV.pp 2 r.root) [Blk.mk n (Cont.cells [i6 kid, i6 kq.t, i6 kq.l, i6 kq.b, i6 kq.r, AV.pp 1 l.root, AV.pp 2 r.root, i6 hi, i6 la] 81) true, Blk.mk 0 (Cont.res (PT × List Nat) (l, Sl) (fun (x : PT × List Nat) => x.snd) (packI treeC)) true, Blk.mk 0 (Cont.res (PT × List Nat) (r, Sr) (fun (x : PT × List Nat) => x.snd) (packI treeC)) true, Blk.mk n1 (Cont.cells [i6 qt, i6 ql, i6 qb, i6 qr] 31) true]) (n = n ∧ br (match r.root with | some val => false | none => true) (n = n ∧ R (AV.pp 1 l.root) [Blk.mk n (Cont.cells [i6 kid, i6 kq.t, i6 kq.l, i6 kq.b, i6 kq.r, AV.pp 1 l.root, AV.pp 2 r.root, i6 hi, i6 la] 81) true, Blk.mk 0 (Cont.res (PT × List Nat) (l, Sl) (fun (x : PT × List Nat) => x.snd) (packI treeC)) true, Blk.mk 0 (Cont.res (PT × List Nat) (r, Sr) (fun (x : PT × List Nat) => x.snd) (packI treeC)) true, Blk.mk n1 (Cont.cells [i6 qt, i6 ql, i6 qb, i6 qr] 31) true]) (n = n ∧ ∃ (t : PT), ∃ (S : List Nat), some (Blk.mk 0 (Cont.res (PT × List Nat) (r, Sr) (fun (x : PT × List Nat) => x.snd) (packI treeC)) true) = some (Blk.mk 0 (Cont.res (PT × List Nat) (t, S) (fun (x : PT × List Nat) => x.snd) (packI treeC)) true) ∧ r.root = t.root ∧ someO t ∧ t.good ∧ t.sz < k ∧ k ≤ 100000 ∧ ∀ (T : PT) (n5 : Nat) (id qt_1 ql_1 qb_1 qr_1 : Int) (a b : Option Addr) (h l_1 : Int), fstO t T n5 id (RC.mk qt_1 ql_1 qb_1 qr_1) → ∀ (S : List Nat), n = n ∧ n5 = n5 ∧ n5 = n5 ∧ n5 = n5 ∧ 1 ≠ 4 ∧ ∃ (l_2 : PT), ∃ (r_1 : PT), ∃ (Sl_1 : List Nat), ∃ (Sr : List
 Nat), some (Blk.mk 0 (Cont.res (PT × List Nat) (l, Sl) (fun (x : PT × List Nat) => x.snd) (packI treeC)) true) = some (Blk.mk 0 (Cont.res (PT × List Nat) (l_2, Sl_1) (fun (x : PT × List Nat) => x.snd) (packI treeC)) true) ∧ some (Blk.mk 0 (Cont.res (PT × List Nat) (T, S) (fun (x : PT × List Nat) => x.snd) (packI treeC)) true) = some (Blk.mk 0 (Cont.res (PT × List Nat) (r_1, Sr) (fun (x : PT × List Nat) => x.snd) (packI treeC)) true) ∧ l.root = l_2.root ∧ T.root = r_1.root ∧ l_2.low ∧ r_1.low ∧ ∀ (T : PT), T = (PT.node n5 id (RC.mk (RC.mk qt_1 ql_1 qb_1 qr_1).t (RC.mk qt_1 ql_1 qb_1 qr_1).l (RC.mk qt_1 ql_1 qb_1 qr_1).b (RC.mk qt_1 ql_1 qb_1 qr_1).r) h l_1 l_2 r_1).bal → ∀ (S : List Nat), R (AV.pp 6 T.root) [Blk.mk n (Cont.cells [i6 kid, i6 kq.t, i6 kq.l, i6 kq.b, i6 kq.r, AV.pp 1 l.root, AV.pp 2 r.root, i6 hi, i6 la] 81) true, Blk.mk 0 (Cont.lst 0 0 [] [] none) false, Blk.mk 0 (Cont.lst 0 0 [] [] none) false, Blk.mk n1 (Cont.cells [i6 qt, i6 ql, i6 qb, i6 qr] 31) true, Blk.mk 0 (Cont.lst 0 0 [] [] none) false, Blk.mk 0 (Cont.lst 0 0 [] [] none) false, Blk.mk 0 (Cont.res (PT × List Nat) (T, S) (fun (x : PT × List Nat) => x.snd) (packI treeC)) true]))))) : LC Try.prog 43 [.ptr 0 n 0, .v (.int .i64 id), .agg [.v (.int .i64 qt), .v (.int .i64 ql), .v (.int .i64 qb), .v (.int .i64 qr)]] [ndB n kid kq (.pp 1 l.root) (.pp 2 r.root) hi la, trB l Sl, trB r Sr] R :=
  lc_of_exec (tbl := (tbDe m k)) tab_ok hm mixed noinv 2 _ Try.func43 rfl Try.ntmps43 (by decide) (by kernel_rfl) (Nat.le_of_ble_eq_true rfl) (@Eq.mpr (execN tab (tbDe m k) noinv 2 Try.f43.ntmps [] none 0 (body Try.f43) (argsT [.ptr 0 n 0, .v (.int .i64 id), .agg [.v (.int .i64 qt), .v (.int .i64 ql), .v (.int .i64 qb), .v (.int .i64 qr)]] 0) [ndB n kid kq (.pp 1 l.root) (.pp 2 r.root) hi la, trB l Sl, trB r Sr] (post Try.f43 tab (retK R))) _ (by kernel_rfl) h)
end Go.Proofs.Ytjnehpljhnlbfaa
namespace Go.Eng
open Go Go.Sp Go.Proofs.Ytjnehpljhnlbfaa
theorem fst_both : ∀ {t : PT}, t.wf → t.isLeaf = false → t.fst.1.wf ∧ t.fst.1.sz + 1 = t.sz
  | .leaf, _, h => by cases h
  | .node n id q hi la l r, hw, _ => by
    unfold PT.fst
    split
    · rename_i hl
      cases l with
      | leaf => exact ⟨hw.2.2.2, by show r.sz + 1 = PT.sz .leaf + r.sz + 1; simp [PT.sz]⟩
      | node _ _ _ _ _ _ _ => cases hl
    · rename_i hl
      obtain ⟨g1, g2⟩ := fst_both hw.2.2.1 (by simpa using hl)
      obtain ⟨k1, k2⟩ := bal_both (n := n) (id := id) (q := q) (hi := hi) (la := la) g1 hw.2.2.2
      exact ⟨k1, by rw [k2]; show _ = l.sz + r.sz + 1; omega⟩
theorem del_both (id : Int) (q : RC) : ∀ {t : PT}, t.wf → t.has id q = true → (t.del id q).wf ∧ (t.del id q).sz + 1 = t.sz
  | .leaf, _, h => by cases h
  | .node n kid kq h b l r, hw, hh => by
    unfold PT.has at hh
    unfold PT.del
    split
    · rename_i ho
      rw [if_pos ho] at hh
      split
      · rename_i h2
        rw [if_pos h2] at hh
        obtain ⟨g1, g2⟩ := del_both id q hw.2.2.1 hh
        obtain ⟨k1, k2⟩ := bal_both (n := n) (id := kid) (q := kq) (hi := h) (la := b) g1 hw.2.2.2
        exact ⟨k1, by rw [k2]; show _ = l.sz + r.sz + 1; omega⟩
      · rename_i h2
        rw [if_neg h2] at hh
        obtain ⟨g1, g2⟩ := del_both id q hw.2.2.2 hh
        obtain ⟨k1, k2⟩ := bal_both (n := n) (id := kid) (q := kq) (hi := h) (la := b) hw.2.2.1 g1
        exact ⟨k1, by rw [k2]; show _ = l.sz + r.sz + 1; omega⟩
    · split
      · rename_i hl
        cases l with
        | leaf => exact ⟨hw.2.2.2, by show r.sz + 1 = PT.sz .leaf + r.sz + 1; simp [PT.sz]⟩
        | node _ _ _ _ _ _ _ => cases hl
      · split
        · rename_i hr
          cases r with
          | leaf => exact ⟨hw.2.2.1, by show l.sz + 1 = l.sz + PT.sz .leaf + 1; simp [PT.sz]⟩
          | node _ _ _ _ _ _ _ => cases hr
        · rename_i hr
          obtain ⟨g1, g2⟩ := fst_both hw.2.2.2 (by simpa using hr)
          obtain ⟨k1, k2⟩ := bal_both (n := r.fst.2.1) (id := r.fst.2.2.1) (q := r.fst.2.2.2) (hi := 0) (la := 0) hw.2.2.1 g1
          exact ⟨k1, by rw [k2]; show _ = l.sz + r.sz + 1; omega⟩
end Go.Eng
namespace Go.Proofs.Ytjnehpljhnlbfaa
open Go Go.Eng Go.Sp
set_option linter.unusedVariables false
set_option linter.unusedSimpArgs false
theorem fst_enters : Enters Try.prog 62 := enters_of (c := body Try.f62) Try.func62 rfl (by kernel_rfl)
theorem del_enters : Enters Try.prog 43 := enters_of (c := body Try.f43) Try.func43 rfl (by kernel_rfl)
def fstR (t : PT) : AV → HH → Prop := fun z H' => ∃ (T : PT) (n : Nat) (id qt ql qb qr : Int) (a b : Option Addr) (h l : Int) (S : List Nat), fstO t T n id ⟨qt, ql, qb, qr⟩ ∧ z.den = (AV.tup [.pp 0 T.root, .ptr 1 n 0]).den ∧ LeH H' [trB T S, ndB n id ⟨qt, ql, qb, qr⟩ (.v (.pointer a)) (.v (.pointer b)) h l]
theorem fst_step (m : Nat) (hm : TblOk Try.prog (tbFi m)) (hk : m + 1 ≤ 100000) (t : PT) (S : List Nat) (ht : t.isLeaf = false) (hw : t.wf) (hs : t.sz < m + 1) :
    LC Try.prog 62 [.pp 0 t.root] [trB t S] (fstR t) := by
  cases t with
  | leaf => cases ht
  | node n id q hi la l r =>
    refine LC.of_open fst_enters fun w hw0 => ?_
    obtain ⟨Sl, Sr, t2⟩ := tree_open (Hr := []) hw0
    have t3 := t2.at (H2 := [ndB n id q (.pp 1 l.root) (.pp 2 r.root) hi la, trB l Sl, trB r Sr]) [0, 1, 2] (by decide) ⟨LeB.cells rfl (fun h => h), LeB.refl _, LeB.refl _, trivial⟩
    have hs : l.sz + r.sz + 1 < m + 1 := hs
    have sr : r.sm 1000000 := wf_sm hw.2.2.2 (by omega)
    refine ⟨_, [.ptr 0 n 0], fstR (.node n id q hi la l r), t3, rfl, fi_vc m hm n id q hi la l r Sl Sr ?_, fun r' H' w' hr' hw' => ⟨r', H', rfl, hr', To.refl hw'⟩⟩
    simp only [true_and, and_true]
    cases hl : l with
    | leaf =>
      refine br_intro (fun _ => ?_) (fun h => by cases h)
      refine ⟨r, n, id, q.t, q.l, q.b, q.r, none, r.root, hi, la, Sr, ⟨by unfold PT.fst; rfl⟩, rfl, leAt [2, 0] (by decide) ⟨LeB.refl _, LeB.cells rfl (fun h => h), trivial⟩⟩
    | node a1 a2 a3 a4 a5 a6 a7 =>
      rw [← hl]
      have hl2 : l.isLeaf = false := by rw [hl]; rfl
      refine br_intro (fun h => by rw [hl] at h; cases h) (fun _ => ?_)
      refine ⟨l, Sl, rfl, rfl, ⟨hl2⟩, ⟨hw.2.2.1⟩, by omega, by omega, fun T n4 id1 qt ql qb qr a b h1 l1 hT S1 => ⟨by decide, T, r, S1, Sr, rfl, rfl, rfl, rfl, ⟨?_⟩, ⟨sr⟩, fun T2 hT2 S2 => ?_⟩⟩
      · obtain ⟨g1, g2⟩ := fst_both hw.2.2.1 hl2
        rw [hT.h] at g1 g2
        exact wf_sm g1 (by have g2 : T.sz + 1 = l.sz := g2; omega)
      · refine ⟨T2, n4, id1, qt, ql, qb, qr, a, b, h1, l1, S2, ⟨?_⟩, rfl, leAt [5, 4] (by decide) ⟨LeB.refl _, LeB.cells rfl (fun h => h), trivial⟩⟩
        have e := hT.h
        unfold PT.fst
        rw [if_neg (by rw [hl2]; decide), e, hT2]
theorem fst_ok : ∀ m : Nat, HOk Try.prog 62 (fstH m)
  | 0 => HOk.of_take fst_enters fun rs args H K hk => by
    unfold fstH at hk
    split at hk
    · obtain ⟨t, S, _, _, _, _, h, _⟩ := hk
      exact absurd h (Nat.not_lt_zero _)
    · exact hk.elim
  | m + 1 => HOk.of_take fst_enters fun rs args H K hk => by
    unfold fstH at hk
    split at hk
    · rename_i i p
      obtain ⟨t, S, h1, rfl, h2, h3, h4, h5, hk⟩ := hk
      refine ⟨[i], [trB t S], [.pp 0 t.root], _, by simp, ?_, rfl, fst_step m ⟨fst_ok m, bal_ok, trivial⟩ h5 t S h2.h h3.h h4, fun z H' hz => ?_⟩
      · simp only [pickH, h1]
        exact ⟨LeB.refl _, trivial⟩
      · obtain ⟨T, n, id, qt, ql, qb, qr, a, b, h, l, S', e0, e1, e2⟩ := hz
        exact ⟨_, _, by rw [e1]; rfl, e2, hk T n id qt ql qb qr a b h l e0 S'⟩
    · exact hk.elim
theorem del_step (m : Nat) (hm : TblOk Try.prog (tbDe m 100000)) (id qt ql qb qr : Int) (hk : m + 1 ≤ 100000) (t : PT) (S : List Nat) (hw : t.wf) (hh : t.has id ⟨qt, ql, qb, qr⟩ = true) (hs : t.sz < m + 1) :
    LC Try.prog 43 [.pp 0 t.root, .v (.int .i64 id), .agg [.v (.int .i64 qt), .v (.int .i64 ql), .v (.int .i64 qb), .v (.int .i64 qr)]] [trB t S] (fun z H' => ∃ S', z.den = .pointer (t.del id ⟨qt, ql, qb, qr⟩).root ∧ LeH H' [trB (t.del id ⟨qt, ql, qb, qr⟩) S']) := by
  cases t with
  | leaf => cases hh
  | node n kid kq hi la l r =>
    refine LC.of_open del_enters fun w hw0 => ?_
    obtain ⟨Sl, Sr, t2⟩ := tree_open (Hr := []) hw0
    have t3 := t2.at (H2 := [ndB n kid kq (.pp 1 l.root) (.pp 2 r.root) hi la, trB l Sl, trB r Sr]) [0, 1, 2] (by decide) ⟨LeB.cells rfl (fun h => h), LeB.refl _, LeB.refl _, trivial⟩
    have hs : l.sz + r.sz + 1 < m + 1 := hs
    have sl : l.sm 1000000 := wf_sm hw.2.2.1 (by omega)
    have sr : r.sm 1000000 := wf_sm hw.2.2.2 (by omega)
    unfold PT.has at hh
    refine ⟨_, [.ptr 0 n 0, .v (.int .i64 id), .agg [.v (.int .i64 qt), .v (.int .i64 ql), .v (.int .i64 qb), .v (.int .i64 qr)]], (fun z H' => ∃ S', z.den = .pointer ((PT.node n kid kq hi la l r).del id ⟨qt, ql, qb, qr⟩).root ∧ LeH H' [trB ((PT.node n kid kq hi la l r).del id ⟨qt, ql, qb, qr⟩) S']), t3, rfl, de_vc m 100000 hm n kid kq hi la l r Sl Sr id qt ql qb qr ?_, fun r' H' w' hr' hw' => ⟨r', H', rfl, hr', To.refl hw'⟩⟩
    simp only [true_and, and_true]
    intro n1
    refine br_intro (fun ho => ?_) (fun ho => ?_)
    · have ho' : ordV qt id kq.t kid ≠ 0 := by simpa using ho
      have hh := hh
      rw [if_pos ho'] at hh
      refine br_intro (fun h => ?_) (fun h => ?_)
      · have h2 := of_decide_eq_true h
        rw [if_pos h2] at hh
        refine ⟨l, Sl, rfl, rfl, ⟨hh⟩, ⟨hw.2.2.1⟩, by omega, by omega, fun T hT S1 => ⟨by decide, T, r, S1, Sr, rfl, rfl, rfl, rfl, ⟨?_⟩, ⟨sr⟩, fun T2 hT2 S2 => ?_⟩⟩
        · obtain ⟨g1, g2⟩ := del_both id ⟨qt, ql, qb, qr⟩ hw.2.2.1 hh
          rw [← hT.h] at g1 g2
          exact wf_sm g1 (by omega)
        · have e : (PT.node n kid kq hi la l r).del id ⟨qt, ql, qb, qr⟩ = T2 := by
            rw [hT2, hT.h]
            exact (if_pos ho').trans (if_pos h2)
          refine ⟨S2, by rw [e]; rfl, ?_⟩
          rw [e]
          exact leAt [5] (by decide) ⟨LeB.refl _, trivial⟩
      · have h2 := of_decide_eq_false h
        rw [if_neg h2] at hh
        refine ⟨r, Sr, rfl, rfl, ⟨hh⟩, ⟨hw.2.2.2⟩, by omega, by omega, fun T hT S1 => ⟨by decide, l, T, Sl, S1, rfl, rfl, rfl, rfl, ⟨sl⟩, ⟨?_⟩, fun T2 hT2 S2 => ?_⟩⟩
        · obtain ⟨g1, g2⟩ := del_both id ⟨qt, ql, qb, qr⟩ hw.2.2.2 hh
          rw [← hT.h] at g1 g2
          exact wf_sm g1 (by omega)
        · have e : (PT.node n kid kq hi la l r).del id ⟨qt, ql, qb, qr⟩ = T2 := by
            rw [hT2, hT.h]
            exact (if_pos ho').trans (if_neg h2)
          refine ⟨S2, by rw [e]; rfl, ?_⟩
          rw [e]
          exact leAt [5] (by decide) ⟨LeB.refl _, trivial⟩
    · have ho' : ¬ ordV qt id kq.t kid ≠ 0 := by simpa using ho
      cases hl : l with
      | leaf =>
        refine br_intro (fun _ => ?_) (fun h => by cases h)
        have e : (PT.node n kid kq hi la .leaf r).del id ⟨qt, ql, qb, qr⟩ = r := (if_neg ho').trans (if_pos rfl)
        refine ⟨Sr, by rw [e]; rfl, ?_⟩
        rw [e]
        exact leAt [2] (by decide) ⟨LeB.refl _, trivial⟩
      | node a1 a2 a3 a4 a5 a6 a7 =>
        rw [← hl]
        have hl2 : l.isLeaf = false := by rw [hl]; rfl
        refine br_intro (fun h => by rw [hl] at h; cases h) (fun _ => ?_)
        cases hr : r with
        | leaf =>
          refine br_intro (fun _ => ?_) (fun h => by cases h)
          have e : (PT.node n kid kq hi la l .leaf).del id ⟨qt, ql, qb, qr⟩ = l := (if_neg ho').trans ((if_neg (by rw [hl2]; decide)).trans (if_pos rfl))
          refine ⟨Sl, by rw [e]; rfl, ?_⟩
          rw [e]
          exact leAt [1] (by decide) ⟨LeB.refl _, trivial⟩
        | node c1 c2 c3 c4 c5 c6 c7 =>
          rw [← hr]
          have hr2 : r.isLeaf = false := by rw [hr]; rfl
          refine br_intro (fun h => by rw [hr] at h; cases h) (fun _ => ?_)
          refine ⟨r, Sr, rfl, rfl, ⟨hr2⟩, ⟨hw.2.2.2⟩, by omega, by omega, fun T n5 id1 qt1 ql1 qb1 qr1 a b h1 l1 hT S1 => ⟨by decide, l, T, Sl, S1, rfl, rfl, rfl, rfl, ⟨sl⟩, ⟨?_⟩, fun T2 hT2 S2 => ?_⟩⟩
          · obtain ⟨g1, g2⟩ := fst_both hw.2.2.2 hr2
            rw [hT.h] at g1 g2
            exact wf_sm g1 (by have g2 : T.sz + 1 = r.sz := g2; omega)
          · have e : (PT.node n kid kq hi la l r).del id ⟨qt, ql, qb, qr⟩ = T2 := by
              rw [hT2]
              refine ((if_neg ho').trans ((if_neg (by rw [hl2]; decide)).trans (if_neg (by rw [hr2]; decide)))).trans ?_
              rw [hT.h]
              rfl
            refine ⟨S2, by rw [e]; rfl, ?_⟩
            rw [e]
            exact leAt [6] (by decide) ⟨LeB.refl _, trivial⟩
theorem del_ok : ∀ m : Nat, HOk Try.prog 43 (delH m)
  | 0 => HOk.of_take del_enters fun rs args H K hk => by
    unfold delH at hk
    split at hk
    · obtain ⟨t, S, _, _, _, _, h, _⟩ := hk
      exact absurd h (Nat.not_lt_zero _)
    · exact hk.elim
  | m + 1 => HOk.of_take del_enters fun rs args H K hk => by
    unfold delH at hk
    split at hk
    · rename_i i p id qt ql qb qr
      obtain ⟨t, S, h1, rfl, h2, h3, h4, h5, hk⟩ := hk
      refine ⟨[i], [trB t S], [.pp 0 t.root, .v (.int .i64 id), .agg [.v (.int .i64 qt), .v (.int .i64 ql), .v (.int .i64 qb), .v (.int .i64 qr)]], _, by simp, ?_, rfl, del_step m ⟨del_ok m, fst_ok 100000, sid_ok, or_ok, bal_ok, trivial⟩ id qt ql qb qr h5 t S h3.h h2.h h4, fun z H' hz => ?_⟩
      · simp only [pickH, h1]
        exact ⟨LeB.refl _, trivial⟩
      · obtain ⟨S', e1, e2⟩ := hz
        exact ⟨_, _, by rw [e1]; rfl, e2, hk _ ⟨rfl⟩ S'⟩
    · exact hk.elim
end Go.Proofs.Ytjnehpljhnlbfaa
