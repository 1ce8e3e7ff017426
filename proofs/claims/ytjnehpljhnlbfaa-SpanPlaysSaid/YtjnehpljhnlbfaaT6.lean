import Derived.Test.YtjnehpljhnlbfaaT4
namespace Go.Sp
open Go.Eng Go.Proofs.Ytjnehpljhnlbfaa
def PT.sz : PT → Nat
  | .leaf => 0
  | .node _ _ _ _ _ l r => l.sz + r.sz + 1
def PT.wf : PT → Prop
  | .leaf => True
  | .node _ _ q hi la l r => hi = 1 + max l.ht r.ht ∧ la = max q.b (max l.bt r.bt) ∧ l.wf ∧ r.wf
structure PT.good (t : PT) : Prop where
  h : t.wf
def PT.ins (nn : Nat) (id : Int) (q : RC) : PT → PT
  | .leaf => .node nn id q 1 q.b .leaf .leaf
  | .node n kid kq h b l r => if ordV q.t id kq.t kid < 0 then (PT.node n kid kq h b (l.ins nn id q) r).bal else (PT.node n kid kq h b l (r.ins nn id q)).bal
end Go.Sp
namespace Go.Eng
open Go Go.Sp Go.Proofs.Ytjnehpljhnlbfaa
theorem wf_ht : ∀ {t : PT}, t.wf → 0 ≤ t.ht ∧ t.ht ≤ (t.sz : Int)
  | .leaf, _ => ⟨Int.le_refl _, Int.le_refl _⟩
  | .node n id q hi la l r, h => by
    have h1 := wf_ht h.2.2.1
    have h2 := wf_ht h.2.2.2
    have e := h.1
    show 0 ≤ hi ∧ hi ≤ ((l.sz + r.sz + 1 : Nat) : Int)
    omega
theorem wf_sm {k : Int} : ∀ {t : PT}, t.wf → (t.sz : Int) ≤ k → t.sm k
  | .leaf, _, _ => trivial
  | .node n id q hi la l r, h, hk => by
    have hh := wf_ht (t := .node n id q hi la l r) h
    have hk : ((l.sz + r.sz + 1 : Nat) : Int) ≤ k := hk
    refine ⟨hh.1, Int.le_trans hh.2 hk, wf_sm h.2.2.1 (by omega), wf_sm h.2.2.2 (by omega)⟩
theorem bal_both {n : Nat} {id : Int} {q : RC} {hi la : Int} {l r : PT} (hl : l.wf) (hr : r.wf) : (PT.node n id q hi la l r).bal.wf ∧ (PT.node n id q hi la l r).bal.sz = l.sz + r.sz + 1 := by
  by_cases h1 : l.ht > r.ht + 1
  · cases l with
    | leaf =>
      have h2 := (wf_ht hr).1
      have : PT.ht .leaf = 0 := rfl
      omega
    | node u ui uq uh ua ul ur =>
      by_cases h2 : ur.ht > ul.ht
      · cases ur with
        | leaf =>
          have h3 := (wf_ht hl.2.2.1).1
          have : PT.ht .leaf = 0 := rfl
          omega
        | node v vi vq vh va vl vr =>
          have hx : (if (PT.node u ui uq uh ua ul (.node v vi vq vh va vl vr)).rt.ht > (PT.node u ui uq uh ua ul (.node v vi vq vh va vl vr)).lt.ht then (PT.node u ui uq uh ua ul (.node v vi vq vh va vl vr)).turnR else (PT.node u ui uq uh ua ul (.node v vi vq vh va vl vr))) = (PT.node u ui uq uh ua ul (.node v vi vq vh va vl vr)).turnR := if_pos h2
          have e : (PT.node n id q hi la (.node u ui uq uh ua ul (.node v vi vq vh va vl vr)) r).bal = (PT.node v vi vq 0 0 (PT.node u ui uq 0 0 ul vl).cnt (PT.node n id q 0 0 vr r).cnt).cnt := by
            refine (if_pos h1).trans ?_
            rw [hx]
            rfl
          rw [e]
          exact ⟨⟨rfl, rfl, ⟨rfl, rfl, hl.2.2.1, hl.2.2.2.2.2.1⟩, ⟨rfl, rfl, hl.2.2.2.2.2.2, hr⟩⟩, by simp only [PT.cnt, PT.sz]; omega⟩
      · have hx : (if (PT.node u ui uq uh ua ul ur).rt.ht > (PT.node u ui uq uh ua ul ur).lt.ht then (PT.node u ui uq uh ua ul ur).turnR else (PT.node u ui uq uh ua ul ur)) = (PT.node u ui uq uh ua ul ur) := if_neg h2
        have e : (PT.node n id q hi la (.node u ui uq uh ua ul ur) r).bal = (PT.node u ui uq 0 0 ul (PT.node n id q 0 0 ur r).cnt).cnt := by
          refine (if_pos h1).trans ?_
          rw [hx]
          rfl
        rw [e]
        exact ⟨⟨rfl, rfl, hl.2.2.1, ⟨rfl, rfl, hl.2.2.2, hr⟩⟩, by simp only [PT.cnt, PT.sz]; omega⟩
  · by_cases h2 : r.ht > l.ht + 1
    · cases r with
      | leaf =>
        have h3 := (wf_ht hl).1
        have : PT.ht .leaf = 0 := rfl
        omega
      | node u ui uq uh ua ul ur =>
        by_cases h3 : ul.ht > ur.ht
        · cases ul with
          | leaf =>
            have h4 := (wf_ht hr.2.2.2).1
            have : PT.ht .leaf = 0 := rfl
            omega
          | node v vi vq vh va vl vr =>
            have hx : (if (PT.node u ui uq uh ua (.node v vi vq vh va vl vr) ur).lt.ht > (PT.node u ui uq uh ua (.node v vi vq vh va vl vr) ur).rt.ht then (PT.node u ui uq uh ua (.node v vi vq vh va vl vr) ur).turnL else (PT.node u ui uq uh ua (.node v vi vq vh va vl vr) ur)) = (PT.node u ui uq uh ua (.node v vi vq vh va vl vr) ur).turnL := if_pos h3
            have e : (PT.node n id q hi la l (.node u ui uq uh ua (.node v vi vq vh va vl vr) ur)).bal = (PT.node v vi vq 0 0 (PT.node n id q 0 0 l vl).cnt (PT.node u ui uq 0 0 vr ur).cnt).cnt := by
              refine (if_neg h1).trans ((if_pos h2).trans ?_)
              rw [hx]
              rfl
            rw [e]
            exact ⟨⟨rfl, rfl, ⟨rfl, rfl, hl, hr.2.2.1.2.2.1⟩, ⟨rfl, rfl, hr.2.2.1.2.2.2, hr.2.2.2⟩⟩, by simp only [PT.cnt, PT.sz]; omega⟩
        · have hx : (if (PT.node u ui uq uh ua ul ur).lt.ht > (PT.node u ui uq uh ua ul ur).rt.ht then (PT.node u ui uq uh ua ul ur).turnL else (PT.node u ui uq uh ua ul ur)) = (PT.node u ui uq uh ua ul ur) := if_neg h3
          have e : (PT.node n id q hi la l (.node u ui uq uh ua ul ur)).bal = (PT.node u ui uq 0 0 (PT.node n id q 0 0 l ul).cnt ur).cnt := by
            refine (if_neg h1).trans ((if_pos h2).trans ?_)
            rw [hx]
            rfl
          rw [e]
          exact ⟨⟨rfl, rfl, ⟨rfl, rfl, hl, hr.2.2.1⟩, hr.2.2.2⟩, by simp only [PT.cnt, PT.sz]; omega⟩
    · have e : (PT.node n id q hi la l r).bal = (PT.node n id q hi la l r).cnt := (if_neg h1).trans (if_neg h2)
      rw [e]
      exact ⟨⟨rfl, rfl, hl, hr⟩, rfl⟩
theorem ins_both (nn : Nat) (id : Int) (q : RC) (hq : 0 ≤ q.b) : ∀ {t : PT}, t.wf → (t.ins nn id q).wf ∧ (t.ins nn id q).sz = t.sz + 1
  | .leaf, _ => ⟨⟨rfl, by show q.b = max q.b (max 0 0); omega, trivial, trivial⟩, rfl⟩
  | .node n kid kq h b l r, hw => by
    unfold PT.ins
    split
    · obtain ⟨g1, g2⟩ := ins_both nn id q hq hw.2.2.1
      obtain ⟨k1, k2⟩ := bal_both (n := n) (id := kid) (q := kq) (hi := h) (la := b) g1 hw.2.2.2
      exact ⟨k1, by rw [k2, g2]; show _ = l.sz + r.sz + 1 + 1; omega⟩
    · obtain ⟨g1, g2⟩ := ins_both nn id q hq hw.2.2.2
      obtain ⟨k1, k2⟩ := bal_both (n := n) (id := kid) (q := kq) (hi := h) (la := b) hw.2.2.1 g1
      exact ⟨k1, by rw [k2, g2]; show _ = l.sz + r.sz + 1 + 1; omega⟩
def withH (m : Nat) : Handler := fun _ args H K =>
  match args with
  | [.pp i p, .v (.int .i64 id), .agg [.v (.int .i64 qt), .v (.int .i64 ql), .v (.int .i64 qb), .v (.int .i64 qr)]] =>
    ∃ (t : PT) (S : List Nat), nth H i = some (trB t S) ∧ p = t.root ∧ t.good ∧ t.sz < m ∧ m ≤ 100000 ∧ 0 ≤ qb ∧
      ∀ (T : PT), (∃ nn, T = t.ins nn id ⟨qt, ql, qb, qr⟩) → ∀ S, K (.ret (.pp H.length T.root)) (holes H [i] ++ [trB T S])
  | _ => False
end Go.Eng
namespace Go.Proofs.Ytjnehpljhnlbfaa
open Go Go.Eng Go.Sp
set_option linter.unusedVariables false
set_option linter.unusedSimpArgs false
set_option maxRecDepth 100000 in
theorem wi0_vc (id qt ql qb qr : Int) (S : List Nat) {R : AV → HH → Prop} (h : (∀ (n1 : Nat), n1 = n1 ∧ n1 = n1 ∧ ∀ (n2 : Nat), R (AV.ptr (2 : Nat) n2 (0 : Nat)) [Blk.mk (0 : Nat) (Cont.res (PT × List Nat) (PT.leaf, S) (fun (x : PT × List Nat) => x.snd) (packI treeC)) true, Blk.mk n1 (Cont.cells [AV.v (Value.int IntKind.i64 qt), AV.v (Value.int IntKind.i64 ql), AV.v (Value.int IntKind.i64 qb), AV.v (Value.int IntKind.i64 qr)] (31 : Nat)) true, Blk.mk n2 (Cont.cells [AV.v (Value.int IntKind.i64 id), AV.v (Value.int IntKind.i64 qt), AV.v (Value.int IntKind.i64 ql), AV.v (Value.int IntKind.i64 qb), AV.v (Value.int IntKind.i64 qr), AV.v (Value.pointer none), AV.v (Value.pointer none), AV.v (Value.int IntKind.i64 (1 : Int)), AV.v (Value.int IntKind.i64 qb)] (81 : Nat)) true])) : LC Try.prog 42 [.pp 0 none, .v (.int .i64 id), .agg [.v (.int .i64 qt), .v (.int .i64 ql), .v (.int .i64 qb), .v (.int .i64 qr)]] [trB .leaf S] R :=
  lc_of_exec (tbl := []) tab_ok trivial mixed noinv 2 _ Try.func42 rfl Try.ntmps42 (by decide) (by kernel_rfl) (Nat.le_of_ble_eq_true rfl) (@Eq.mpr (execN tab [] noinv 2 Try.f42.ntmps [] none 0 (body Try.f42) (argsT [.pp 0 none, .v (.int .i64 id), .agg [.v (.int .i64 qt), .v (.int .i64 ql), .v (.int .i64 qb), .v (.int .i64 qr)]] 0) [trB .leaf S] (post Try.f42 tab (retK R))) _ (by kernel_rfl) h)
def tbWi (m : Nat) : Tbl := (42, .gen (withH m)) :: (59, .gen sidI) :: (60, .gen orH) :: (61, .gen balH) :: []
set_option maxRecDepth 100000 in
theorem wi1_vc (m : Nat) (hm : TblOk Try.prog (tbWi m)) (n : Nat) (kid : Int) (kq : RC) (hi la : Int) (l r : PT) (Sl Sr : List Nat) (id qt ql qb qr : Int) {R : AV → HH → Prop} (h : (∀ (n1 : Nat), n1 = n1 ∧ n = n ∧ br (decide (ordV qt id kq.t kid < (0 : Int))) (n = n ∧ n1 = n1 ∧ ∃ (t : PT), ∃ (S : List Nat), some (Blk.mk 0 (Cont.res (PT × List Nat) (l, Sl) (fun (x : PT × List Nat) => x.snd) (packI treeC)) true) = some (Blk.mk 0 (Cont.res (PT × List Nat) (t, S) (fun (x : PT × List Nat) => x.snd) (packI treeC)) true) ∧ l.root = t.root ∧ t.good ∧ t.sz < m ∧ m ≤ 100000 ∧ (0 : Int) ≤ qb ∧ ∀ (T : PT), (∃ (nn : Nat), T = PT.ins nn id (RC.mk qt ql qb qr) t) → ∀ (S : List Nat), n = n ∧ n = n ∧ 4 ≠ 2 ∧ ∃ (l : PT), ∃ (r_1 : PT), ∃ (Sl : List Nat), ∃ (Sr_1 : List Nat), some (Blk.mk 0 (Cont.res (PT × List Nat) (T, S) (fun (x : PT × List Nat) => x.snd) (packI treeC)) true) = some (Blk.mk 0 (Cont.res (PT × List Nat) (l, Sl) (fun (x : PT × List Nat) => x.snd) (packI treeC)) true) ∧ some (Blk.mk 0 (Cont.res (PT × List Nat) (r, Sr) (fun (x : PT × List Nat) => x.snd) (packI treeC)) true) = some (Blk.mk 0 (Cont.res (PT × List Nat) (r_1, Sr_1) (fun (x : PT × List Nat) => x.snd) (packI treeC)) true) ∧ T.root = l.root ∧ r.root = r_1.root ∧ l.low ∧ r_1.low ∧ ∀ (T : PT), T = (PT.node n kid (RC.mk kq.t kq.l kq.b kq.r) hi la l r_1).bal → ∀ (S : List Nat), R (AV.pp 5 T.root) [Blk.mk 0 (Cont.lst 0 0 [] [] none) false, Blk.mk 0 (Cont.lst 0 0 [] [] none) false, Blk.mk 0 (Cont.lst 0 0 [] [] none) false, Blk.mk n1 (Cont.cells [i6 qt, i6 ql, i6 qb, i6 qr] 31) true, Blk.mk 0 (Cont.lst 0 0 [] [] none) false, Blk.mk 0 (Cont.res (PT × List Nat) (T, S) (fun (x : PT × List Nat) => x.snd) (packI
 treeC)) true]) (n = n ∧ n1 = n1 ∧ ∃ (t : PT), ∃ (S : List Nat), some (Blk.mk 0 (Cont.res (PT × List Nat) (r, Sr) (fun (x : PT × List Nat) => x.snd) (packI treeC)) true) = some (Blk.mk 0 (Cont.res (PT × List Nat) (t, S) (fun (x : PT × List Nat) => x.snd) (packI treeC)) true) ∧ r.root = t.root ∧ t.good ∧ t.sz < m ∧ m ≤ 100000 ∧ (0 : Int) ≤ qb ∧ ∀ (T : PT), (∃ (nn : Nat), T = PT.ins nn id (RC.mk qt ql qb qr) t) → ∀ (S : List Nat), n = n ∧ n = n ∧ 1 ≠ 4 ∧ ∃ (l_1 : PT), ∃ (r : PT), ∃ (Sl_1 : List Nat), ∃ (Sr : List Nat), some (Blk.mk 0 (Cont.res (PT × List Nat) (l, Sl) (fun (x : PT × List Nat) => x.snd) (packI treeC)) true) = some (Blk.mk 0 (Cont.res (PT × List Nat) (l_1, Sl_1) (fun (x : PT × List Nat) => x.snd) (packI treeC)) true) ∧ some (Blk.mk 0 (Cont.res (PT × List Nat) (T, S) (fun (x : PT × List Nat) => x.snd) (packI treeC)) true) = some (Blk.mk 0 (Cont.res (PT × List Nat) (r, Sr) (fun (x : PT × List Nat) => x.snd) (packI treeC)) true) ∧ l.root = l_1.root ∧ T.root = r.root ∧ l_1.low ∧ r.low ∧ ∀ (T : PT), T = (PT.node n kid (RC.mk kq.t kq.l kq.b kq.r) hi la l_1 r).bal → ∀ (S : List Nat), R (AV.pp 5 T.root) [Blk.mk 0 (Cont.lst 0 0 [] [] none) false, Blk.mk 0 (Cont.lst 0 0 [] [] none) false, Blk.mk 0 (Cont.lst 0 0 [] [] none) false, Blk.mk n1 (Cont.cells [i6 qt, i6 ql, i6 qb, i6 qr] 31) true, Blk.mk 0 (Cont.lst 0 0 [] [] none) false, Blk.mk 0 (Cont.res (PT × List Nat) (T, S) (fun (x : PT × List Nat) => x.snd) (packI treeC)) true]))) : LC Try.prog 42 [.ptr 0 n 0, .v (.int .i64 id), .agg [.v (.int .i64 qt), .v (.int .i64 ql), .v (.int .i64 qb), .v (.int .i64 qr)]] [ndB n kid kq (.pp 1 l.root) (.pp 2 r.root) hi la, trB l Sl, trB r Sr] R :=
  lc_of_exec (tbl := (tbWi m)) tab_ok hm mixed noinv 2 _ Try.func42 rfl Try.ntmps42 (by decide) (by kernel_rfl) (Nat.le_of_ble_eq_true rfl) (@Eq.mpr (execN tab (tbWi m) noinv 2 Try.f42.ntmps [] none 0 (body Try.f42) (argsT [.ptr 0 n 0, .v (.int .i64 id), .agg [.v (.int .i64 qt), .v (.int .i64 ql), .v (.int .i64 qb), .v (.int .i64 qr)]] 0) [ndB n kid kq (.pp 1 l.root) (.pp 2 r.root) hi la, trB l Sl, trB r Sr] (post Try.f42 tab (retK R))) _ (by kernel_rfl) h)
end Go.Proofs.Ytjnehpljhnlbfaa
namespace Go.Eng
open Go Go.Sp Go.Proofs.Ytjnehpljhnlbfaa
theorem leaf_nil (w : World) : (trB .leaf []).c.holds w (trB .leaf []).num := pack_close (C := treeC) (x := .leaf) (H0 := []) rfl (fun b hb => (by cases hb)) (holds_nil w)
theorem tree_new {n : Nat} {id : Int} {q : RC} {pl pr : AV} {hi la : Int} (hl : pl.den = .pointer none) (hr : pr.den = .pointer none) : LeH [ndB n id q pl pr hi la] [trB (.node n id q hi la .leaf .leaf) [n]] :=
  LeH.trans (LeH.trans (LeH.more (H := [ndB n id q pl pr hi la]) (b := trB .leaf []) rfl leaf_nil) (LeH.more (H := [ndB n id q pl pr hi la, trB .leaf []]) (b := trB .leaf []) rfl leaf_nil)) (tree_close (l := .leaf) (r := .leaf) (Sl := []) (Sr := []) (Hr := []) hl hr)
end Go.Eng
namespace Go.Proofs.Ytjnehpljhnlbfaa
open Go Go.Eng Go.Sp
set_option linter.unusedVariables false
set_option linter.unusedSimpArgs false
theorem with_enters : Enters Try.prog 42 := enters_of (c := body Try.f42) Try.func42 rfl (by kernel_rfl)
theorem with_step (m : Nat) (hm : TblOk Try.prog (tbWi m)) (id qt ql qb qr : Int) (hq : 0 ≤ qb) (hk : m + 1 ≤ 100000) (t : PT) (S : List Nat) (hw : t.wf) (hs : t.sz < m + 1) :
    LC Try.prog 42 [.pp 0 t.root, .v (.int .i64 id), .agg [.v (.int .i64 qt), .v (.int .i64 ql), .v (.int .i64 qb), .v (.int .i64 qr)]] [trB t S] (fun z H' => ∃ nn S', z.den = .pointer (t.ins nn id ⟨qt, ql, qb, qr⟩).root ∧ LeH H' [trB (t.ins nn id ⟨qt, ql, qb, qr⟩) S']) := by
  cases t with
  | leaf =>
    refine wi0_vc id qt ql qb qr S (by
      simp only [true_and, and_true]
      intro n1 n2
      refine ⟨n2, [n2], rfl, LeH.trans (leAt [2] (by decide) ?_) (tree_new (n := n2) (id := id) (q := ⟨qt, ql, qb, qr⟩) (pl := .v (.pointer none)) (pr := .v (.pointer none)) (hi := 1) (la := qb) rfl rfl)⟩
      exact ⟨LeB.cells rfl (fun h => h), trivial⟩)
  | node n kid kq hi la l r =>
    refine LC.of_open with_enters fun w hw0 => ?_
    obtain ⟨Sl, Sr, t2⟩ := tree_open (Hr := []) hw0
    have t3 := t2.at (H2 := [ndB n kid kq (.pp 1 l.root) (.pp 2 r.root) hi la, trB l Sl, trB r Sr]) [0, 1, 2] (by decide) ⟨LeB.cells rfl (fun h => h), LeB.refl _, LeB.refl _, trivial⟩
    have hs : l.sz + r.sz + 1 < m + 1 := hs
    have sl : l.sm 1000000 := wf_sm hw.2.2.1 (by omega)
    have sr : r.sm 1000000 := wf_sm hw.2.2.2 (by omega)
    refine ⟨_, [.ptr 0 n 0, .v (.int .i64 id), .agg [.v (.int .i64 qt), .v (.int .i64 ql), .v (.int .i64 qb), .v (.int .i64 qr)]], (fun z H' => ∃ nn S', z.den = .pointer ((PT.node n kid kq hi la l r).ins nn id ⟨qt, ql, qb, qr⟩).root ∧ LeH H' [trB ((PT.node n kid kq hi la l r).ins nn id ⟨qt, ql, qb, qr⟩) S']), t3, rfl, wi1_vc m hm n kid kq hi la l r Sl Sr id qt ql qb qr ?_, fun r' H' w' hr' hw' => ⟨r', H', rfl, hr', To.refl hw'⟩⟩
    simp only [true_and, and_true]
    intro n1
    refine br_intro (fun h => ?_) (fun h => ?_)
    · refine ⟨l, Sl, rfl, rfl, ⟨hw.2.2.1⟩, by omega, by omega, hq, fun T hT S1 => ⟨by decide, T, r, S1, Sr, rfl, rfl, rfl, rfl, ⟨?_⟩, ⟨sr⟩, fun T2 hT2 S2 => ?_⟩⟩
      · obtain ⟨nn, rfl⟩ := hT
        obtain ⟨g1, g2⟩ := ins_both nn id ⟨qt, ql, qb, qr⟩ hq hw.2.2.1
        exact wf_sm g1 (by omega)
      · obtain ⟨nn, rfl⟩ := hT
        have e : (PT.node n kid kq hi la l r).ins nn id ⟨qt, ql, qb, qr⟩ = T2 := by
          rw [hT2]
          exact if_pos (of_decide_eq_true h)
        refine ⟨nn, S2, by rw [e]; rfl, ?_⟩
        rw [e]
        exact leAt [5] (by decide) ⟨LeB.refl _, trivial⟩
    · refine ⟨r, Sr, rfl, rfl, ⟨hw.2.2.2⟩, by omega, by omega, hq, fun T hT S1 => ⟨by decide, l, T, Sl, S1, rfl, rfl, rfl, rfl, ⟨sl⟩, ⟨?_⟩, fun T2 hT2 S2 => ?_⟩⟩
      · obtain ⟨nn, rfl⟩ := hT
        obtain ⟨g1, g2⟩ := ins_both nn id ⟨qt, ql, qb, qr⟩ hq hw.2.2.2
        exact wf_sm g1 (by omega)
      · obtain ⟨nn, rfl⟩ := hT
        have e : (PT.node n kid kq hi la l r).ins nn id ⟨qt, ql, qb, qr⟩ = T2 := by
          rw [hT2]
          exact if_neg (of_decide_eq_false h)
        refine ⟨nn, S2, by rw [e]; rfl, ?_⟩
        rw [e]
        exact leAt [5] (by decide) ⟨LeB.refl _, trivial⟩
theorem with_ok : ∀ m : Nat, HOk Try.prog 42 (withH m)
  | 0 => HOk.of_take with_enters fun rs args H K hk => by
    unfold withH at hk
    split at hk
    · obtain ⟨t, S, _, _, _, h, _⟩ := hk
      exact absurd h (Nat.not_lt_zero _)
    · exact hk.elim
  | m + 1 => HOk.of_take with_enters fun rs args H K hk => by
    unfold withH at hk
    split at hk
    · rename_i i p id qt ql qb qr
      obtain ⟨t, S, h1, rfl, h2, h3, h4, h5, hk⟩ := hk
      refine ⟨[i], [trB t S], [.pp 0 t.root, .v (.int .i64 id), .agg [.v (.int .i64 qt), .v (.int .i64 ql), .v (.int .i64 qb), .v (.int .i64 qr)]], _, by simp, ?_, rfl, with_step m ⟨with_ok m, sid_ok, or_ok, bal_ok, trivial⟩ id qt ql qb qr h5 h4 t S h2.h h3, fun z H' hz => ?_⟩
      · simp only [pickH, h1]
        exact ⟨LeB.refl _, trivial⟩
      · obtain ⟨nn, S', e1, e2⟩ := hz
        exact ⟨_, _, by rw [e1]; rfl, e2, hk _ ⟨nn, rfl⟩ S'⟩
    · exact hk.elim
end Go.Proofs.Ytjnehpljhnlbfaa
