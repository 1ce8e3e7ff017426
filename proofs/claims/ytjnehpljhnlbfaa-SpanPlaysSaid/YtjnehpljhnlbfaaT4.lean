import Derived.Test.YtjnehpljhnlbfaaT3
namespace Go.Sp
open Go.Eng Go.Proofs.Ytjnehpljhnlbfaa
def PT.sm (k : Int) : PT → Prop
  | .leaf => True
  | .node _ _ _ hi _ l r => 0 ≤ hi ∧ hi ≤ k ∧ l.sm k ∧ r.sm k
structure PT.low (t : PT) : Prop where
  h : t.sm 1000000
end Go.Sp
namespace Go.Eng
open Go Go.Sp Go.Proofs.Ytjnehpljhnlbfaa
theorem sm_ht {k : Int} (h0 : 0 ≤ k) : ∀ {t : PT}, t.sm k → 0 ≤ t.ht ∧ t.ht ≤ k
  | .leaf, _ => ⟨Int.le_refl _, h0⟩
  | .node _ _ _ _ _ _ _, h => ⟨h.1, h.2.1⟩
section
variable {n u : Nat} {id ui : Int} {q uq : RC} {hi la uh ua : Int} {l r ul ur : PT}
theorem ht_nd : (PT.node n id q hi la l r).ht = hi := rfl
theorem bt_nd : (PT.node n id q hi la l r).bt = la := rfl
theorem lt_nd : (PT.node n id q hi la l r).lt = l := rfl
theorem rt_nd : (PT.node n id q hi la l r).rt = r := rfl
theorem cnt_nd : (PT.node n id q hi la l r).cnt = .node n id q (1 + max l.ht r.ht) (max q.b (max l.bt r.bt)) l r := rfl
theorem tL_nd : (PT.node n id q hi la (.node u ui uq uh ua ul ur) r).turnL = .node u ui uq (1 + max ul.ht (1 + max ur.ht r.ht)) (max uq.b (max ul.bt (max q.b (max ur.bt r.bt)))) ul (.node n id q (1 + max ur.ht r.ht) (max q.b (max ur.bt r.bt)) ur r) := rfl
theorem tR_nd : (PT.node n id q hi la l (.node u ui uq uh ua ul ur)).turnR = .node u ui uq (1 + max (1 + max l.ht ul.ht) ur.ht) (max uq.b (max (max q.b (max l.bt ul.bt)) ur.bt)) (.node n id q (1 + max l.ht ul.ht) (max q.b (max l.bt ul.bt)) l ul) ur := rfl
end
theorem LeH.via {H H1 H2 : HH} (c : LeH H1 H2) (h : LeH H H1) : LeH H H2 := h.trans c
theorem mxI (a b : Int) : (if b > a then b else a) = max a b := by
  split <;> omega
theorem w1 {a b : Int} (h : 0 ≤ a ∧ a ≤ 1000000000) (h' : 0 ≤ b ∧ b ≤ 1000000000) : IntKind.i64.wrap (1 + max a b) = 1 + max a b := w64 (by omega)
theorem wp {a : Int} (h : 0 ≤ a ∧ a ≤ 1000000000) : IntKind.i64.wrap (a + 1) = a + 1 := w64 (by omega)
end Go.Eng
namespace Go.Proofs.Ytjnehpljhnlbfaa
open Go Go.Eng Go.Sp
set_option linter.unusedVariables false
set_option linter.unusedSimpArgs false
theorem ba0_lc (n : Nat) (id : Int) (q : RC) (hi la : Int) (l r : PT) (Sl Sr : List Nat) (hl : 0 ≤ l.ht ∧ l.ht ≤ 1000000) (hr : 0 ≤ r.ht ∧ r.ht ≤ 1000000) (h1 : ¬ l.ht > r.ht + 1) (h2 : ¬ r.ht > l.ht + 1) :
    LC Try.prog 61 [.ptr 0 n 0] [ndB n id q (.pp 1 l.root) (.pp 2 r.root) hi la, trB l Sl, trB r Sr] (fun z H' => ∃ S, z.den = .pointer (PT.node n id q hi la l r).bal.root ∧ LeH H' [trB (PT.node n id q hi la l r).bal S]) :=
  ba0_vc n id q hi la l r Sl Sr (by
    simp only [true_and, and_true]
    have e : (PT.node n id q hi la l r).bal = .node n id q (1 + max l.ht r.ht) (max q.b (max l.bt r.bt)) l r := by
      simp only [PT.bal, PT.cnt, if_neg h1, if_neg h2]
    refine ⟨l, Sl, true, rfl, rfl, r, Sr, true, rfl, rfl, l, Sl, true, rfl, rfl, r, Sr, true, rfl, rfl, ?_⟩
    refine ⟨by omega, l, Sl, true, rfl, rfl, r, Sr, true, rfl, rfl, br_intro (fun _ => ?_) (fun h => absurd (of_decide_eq_false h) (by rw [wp (by omega)]; omega))⟩
    refine ⟨by omega, r, Sr, true, rfl, rfl, l, Sl, true, rfl, rfl, br_intro (fun _ => ?_) (fun h => absurd (of_decide_eq_false h) (by rw [wp (by omega)]; omega))⟩
    rw [e]
    try simp only [ba0_k6]
    simp only [mxI]
    rw [w1 (by omega) (by omega), Int.max_assoc]
    exact ⟨n :: (Sl ++ Sr), rfl, tree_close (Hr := []) rfl rfl⟩)
theorem baL_lc (n u : Nat) (id ui : Int) (q uq : RC) (hi la uh ua : Int) (ul ur r : PT) (S1 S2 S3 : List Nat) (bu : 0 ≤ uh ∧ uh ≤ 1000000) (b1 : 0 ≤ ul.ht ∧ ul.ht ≤ 1000000) (b2 : 0 ≤ ur.ht ∧ ur.ht ≤ 1000000) (b3 : 0 ≤ r.ht ∧ r.ht ≤ 1000000) (h1 : uh > r.ht + 1) (h2 : ¬ ur.ht > ul.ht) :
    LC Try.prog 61 [.ptr 0 n 0] [ndB n id q (.ptr 1 u 0) (.pp 2 r.root) hi la, ndB u ui uq (.pp 3 ul.root) (.pp 4 ur.root) uh ua, trB r S1, trB ul S2, trB ur S3] (fun z H' => ∃ S, z.den = .pointer (PT.node n id q hi la (.node u ui uq uh ua ul ur) r).bal.root ∧ LeH H' [trB (PT.node n id q hi la (.node u ui uq uh ua ul ur) r).bal S]) :=
  baL_vc n u id ui q uq hi la uh ua ul ur r S1 S2 S3 (by
    simp only [true_and, and_true]
    have e : (PT.node n id q hi la (.node u ui uq uh ua ul ur) r).bal = .node u ui uq (1 + max ul.ht (1 + max ur.ht r.ht)) (max uq.b (max ul.bt (max q.b (max ur.bt r.bt)))) ul (.node n id q (1 + max ur.ht r.ht) (max q.b (max ur.bt r.bt)) ur r) := by
      have hx : (if (PT.node u ui uq uh ua ul ur).rt.ht > (PT.node u ui uq uh ua ul ur).lt.ht then (PT.node u ui uq uh ua ul ur).turnR else (PT.node u ui uq uh ua ul ur)) = (PT.node u ui uq uh ua ul ur) := if_neg h2
      refine (if_pos (show uh > r.ht + 1 from h1)).trans ?_
      rw [hx]
      rfl
    rw [e]
    refine ⟨_, _, _, rfl, rfl, _, _, _, rfl, rfl, by omega, _, _, _, rfl, rfl, br_intro (fun h => absurd (of_decide_eq_true h) (by rw [wp (by omega)]; omega)) (fun _ => ?_)⟩
    refine ⟨_, _, _, rfl, rfl, _, _, _, rfl, rfl, br_intro (fun h => absurd (of_decide_eq_true h) h2) (fun _ => ?_)⟩
    refine ⟨_, _, _, rfl, rfl, _, _, _, rfl, rfl, _, _, _, rfl, rfl, _, _, _, rfl, rfl, _, _, _, rfl, rfl, _, _, _, rfl, rfl, ?_⟩
    simp only [mxI]
    rw [w1 (a := ur.ht) (b := r.ht) (by omega) (by omega)]
    rw [w1 (a := ul.ht) (by omega) (by omega)]
    simp only [Int.max_assoc]
    have c1 := tree_close (n := n) (id := id) (q := q) (pl := .pp 4 ur.root) (pr := .pp 2 r.root) (hi := 1 + max ur.ht r.ht) (la := max q.b (max ur.bt r.bt)) (l := ur) (r := r) (Sl := S3) (Sr := S1) (Hr := [ndB u ui uq (.pp 3 ul.root) (.ptr 0 n 0) (1 + max ul.ht (1 + max ur.ht r.ht)) (max uq.b (max ul.bt (max q.b (max ur.bt r.bt)))), trB ul S2]) rfl rfl
    have c2 := tree_close (n := u) (id := ui) (q := uq) (pl := .pp 3 ul.root) (pr := .ptr 0 n 0) (hi := 1 + max ul.ht (1 + max ur.ht r.ht)) (la := max uq.b (max ul.bt (max q.b (max ur.bt r.bt)))) (l := ul) (r := .node n id q (1 + max ur.ht r.ht) (max q.b (max ur.bt r.bt)) ur r) (Sl := S2) (Sr := n :: (S3 ++ S1)) (Hr := []) rfl rfl
    refine ⟨_, rfl, LeH.trans (LeH.trans (leAt [0, 4, 2, 1, 3] (by decide) ?_) c1) (LeH.trans (leAt [1, 2, 0] (by decide) ?_) c2)⟩
    · exact ⟨LeB.refl _, LeB.refl _, LeB.refl _, LeB.refl _, LeB.refl _, trivial⟩
    · exact ⟨LeB.refl _, LeB.refl _, LeB.refl _, trivial⟩)
theorem baL2_lc (n u v : Nat) (id ui vi : Int) (q uq vq : RC) (hi la uh ua vh va : Int) (ul vl vr r : PT) (S1 S2 S3 S4 : List Nat) (bu : 0 ≤ uh ∧ uh ≤ 1000000) (bv : 0 ≤ vh ∧ vh ≤ 1000000) (b1 : 0 ≤ ul.ht ∧ ul.ht ≤ 1000000) (b2 : 0 ≤ vl.ht ∧ vl.ht ≤ 1000000) (b4 : 0 ≤ vr.ht ∧ vr.ht ≤ 1000000) (b3 : 0 ≤ r.ht ∧ r.ht ≤ 1000000) (h1 : uh > r.ht + 1) (h2 : vh > ul.ht) :
    LC Try.prog 61 [.ptr 0 n 0] [ndB n id q (.ptr 1 u 0) (.pp 2 r.root) hi la, ndB u ui uq (.pp 3 ul.root) (.ptr 4 v 0) uh ua, trB r S1, trB ul S2, ndB v vi vq (.pp 5 vl.root) (.pp 6 vr.root) vh va, trB vl S3, trB vr S4] (fun z H' => ∃ S, z.den = .pointer (PT.node n id q hi la (.node u ui uq uh ua ul (.node v vi vq vh va vl vr)) r).bal.root ∧ LeH H' [trB (PT.node n id q hi la (.node u ui uq uh ua ul (.node v vi vq vh va vl vr)) r).bal S]) :=
  baL2_vc n u v id ui vi q uq vq hi la uh ua vh va ul vl vr r S1 S2 S3 S4 (by
    simp only [true_and, and_true]
    have e : (PT.node n id q hi la (.node u ui uq uh ua ul (.node v vi vq vh va vl vr)) r).bal = .node v vi vq (1 + max (1 + max ul.ht vl.ht) (1 + max vr.ht r.ht)) (max vq.b (max (max uq.b (max ul.bt vl.bt)) (max q.b (max vr.bt r.bt)))) (.node u ui uq (1 + max ul.ht vl.ht) (max uq.b (max ul.bt vl.bt)) ul vl) (.node n id q (1 + max vr.ht r.ht) (max q.b (max vr.bt r.bt)) vr r) := by
      have hx : (if (PT.node u ui uq uh ua ul (.node v vi vq vh va vl vr)).rt.ht > (PT.node u ui uq uh ua ul (.node v vi vq vh va vl vr)).lt.ht then (PT.node u ui uq uh ua ul (.node v vi vq vh va vl vr)).turnR else (PT.node u ui uq uh ua ul (.node v vi vq vh va vl vr))) = (PT.node u ui uq uh ua ul (.node v vi vq vh va vl vr)).turnR := if_pos h2
      refine (if_pos (show uh > r.ht + 1 from h1)).trans ?_
      rw [hx]
      rfl
    rw [e]
    repeat (refine ⟨_, _, _, rfl, rfl, ?_⟩)
    refine ⟨by omega, ?_⟩
    repeat (refine ⟨_, _, _, rfl, rfl, ?_⟩)
    refine br_intro (fun h => absurd (of_decide_eq_true h) (by rw [wp (by omega)]; omega)) (fun _ => ?_)
    repeat (refine ⟨_, _, _, rfl, rfl, ?_⟩)
    refine br_intro (fun _ => ?_) (fun h => absurd (of_decide_eq_false h) (by omega))
    repeat (refine ⟨_, _, _, rfl, rfl, ?_⟩)
    have k1 := w1 (a := ul.ht) (b := vl.ht) (by omega) (by omega)
    have k2 := w1 (a := vr.ht) (b := r.ht) (by omega) (by omega)
    have k3 := w1 (a := 1 + max ul.ht vl.ht) (b := 1 + max vr.ht r.ht) (by omega) (by omega)
    simp only [mxI, k1, k2, k3, Int.max_assoc]
    have c1 := tree_close (n := n) (id := id) (q := q) (pl := .pp 6 vr.root) (pr := .pp 2 r.root) (hi := 1 + max vr.ht r.ht) (la := max q.b (max vr.bt r.bt)) (l := vr) (r := r) (Sl := S4) (Sr := S1) (Hr := [ndB u ui uq (.pp 3 ul.root) (.pp 5 vl.root) (1 + max ul.ht vl.ht) (max uq.b (max ul.bt vl.bt)), trB ul S2, ndB v vi vq (.ptr 1 u 0) (.ptr 0 n 0) (1 + max (1 + max ul.ht vl.ht) (1 + max vr.ht r.ht)) (max vq.b (max uq.b (max ul.bt (max vl.bt (max q.b (max vr.bt r.bt)))))), trB vl S3]) rfl rfl
    have c2 := tree_close (n := u) (id := ui) (q := uq) (pl := .pp 3 ul.root) (pr := .pp 5 vl.root) (hi := 1 + max ul.ht vl.ht) (la := max uq.b (max ul.bt vl.bt)) (l := ul) (r := vl) (Sl := S2) (Sr := S3) (Hr := [ndB v vi vq (.ptr 1 u 0) (.ptr 0 n 0) (1 + max (1 + max ul.ht vl.ht) (1 + max vr.ht r.ht)) (max vq.b (max uq.b (max ul.bt (max vl.bt (max q.b (max vr.bt r.bt)))))), trB (.node n id q (1 + max vr.ht r.ht) (max q.b (max vr.bt r.bt)) vr r) (n :: (S4 ++ S1))]) rfl rfl
    have c3 := tree_close (n := v) (id := vi) (q := vq) (pl := .ptr 1 u 0) (pr := .ptr 0 n 0) (hi := 1 + max (1 + max ul.ht vl.ht) (1 + max vr.ht r.ht)) (la := max vq.b (max uq.b (max ul.bt (max vl.bt (max q.b (max vr.bt r.bt)))))) (l := .node u ui uq (1 + max ul.ht vl.ht) (max uq.b (max ul.bt vl.bt)) ul vl) (r := .node n id q (1 + max vr.ht r.ht) (max q.b (max vr.bt r.bt)) vr r) (Sl := u :: (S2 ++ S3)) (Sr := n :: (S4 ++ S1)) (Hr := []) rfl rfl
    refine ⟨_, rfl, LeH.trans (LeH.trans (leAt [0, 6, 2, 1, 3, 4, 5] (by decide) ?_) c1) (LeH.trans (LeH.trans (leAt [1, 2, 4, 3, 0] (by decide) ?_) c2) (LeH.trans (leAt [1, 0, 2] (by decide) ?_) c3))⟩
    · exact ⟨LeB.refl _, LeB.refl _, LeB.refl _, LeB.refl _, LeB.refl _, LeB.refl _, LeB.refl _, trivial⟩
    · exact ⟨LeB.refl _, LeB.refl _, LeB.refl _, LeB.refl _, LeB.refl _, trivial⟩
    · exact ⟨LeB.refl _, LeB.refl _, LeB.refl _, trivial⟩)
theorem baR_lc (n u : Nat) (id ui : Int) (q uq : RC) (hi la uh ua : Int) (l ul ur : PT) (S1 S2 S3 : List Nat) (bu : 0 ≤ uh ∧ uh ≤ 1000000) (b1 : 0 ≤ ul.ht ∧ ul.ht ≤ 1000000) (b2 : 0 ≤ ur.ht ∧ ur.ht ≤ 1000000) (b3 : 0 ≤ l.ht ∧ l.ht ≤ 1000000) (h1 : uh > l.ht + 1) (h2 : ¬ ul.ht > ur.ht) :
    LC Try.prog 61 [.ptr 0 n 0] [ndB n id q (.pp 2 l.root) (.ptr 1 u 0) hi la, ndB u ui uq (.pp 3 ul.root) (.pp 4 ur.root) uh ua, trB l S1, trB ul S2, trB ur S3] (fun z H' => ∃ S, z.den = .pointer (PT.node n id q hi la l (.node u ui uq uh ua ul ur)).bal.root ∧ LeH H' [trB (PT.node n id q hi la l (.node u ui uq uh ua ul ur)).bal S]) :=
  baR_vc n u id ui q uq hi la uh ua l ul ur S1 S2 S3 (by
    simp only [true_and, and_true]
    have e : (PT.node n id q hi la l (.node u ui uq uh ua ul ur)).bal = .node u ui uq (1 + max (1 + max l.ht ul.ht) ur.ht) (max uq.b (max (max q.b (max l.bt ul.bt)) ur.bt)) (.node n id q (1 + max l.ht ul.ht) (max q.b (max l.bt ul.bt)) l ul) ur := by
      have hx : (if (PT.node u ui uq uh ua ul ur).lt.ht > (PT.node u ui uq uh ua ul ur).rt.ht then (PT.node u ui uq uh ua ul ur).turnL else (PT.node u ui uq uh ua ul ur)) = (PT.node u ui uq uh ua ul ur) := if_neg h2
      refine (if_neg (show ¬ l.ht > uh + 1 by omega)).trans ((if_pos (show uh > l.ht + 1 from h1)).trans ?_)
      rw [hx]
      rfl
    rw [e]
    repeat (refine ⟨_, _, _, rfl, rfl, ?_⟩)
    refine ⟨by omega, ?_⟩
    repeat (refine ⟨_, _, _, rfl, rfl, ?_⟩)
    refine br_intro (fun _ => ?_) (fun h => absurd (of_decide_eq_false h) (by rw [wp (by omega)]; omega))
    refine ⟨by omega, ?_⟩
    repeat (refine ⟨_, _, _, rfl, rfl, ?_⟩)
    refine br_intro (fun h => absurd (of_decide_eq_true h) (by rw [wp (by omega)]; omega)) (fun _ => ?_)
    repeat (refine ⟨_, _, _, rfl, rfl, ?_⟩)
    refine br_intro (fun h => absurd (of_decide_eq_true h) h2) (fun _ => ?_)
    repeat (refine ⟨_, _, _, rfl, rfl, ?_⟩)
    have k1 := w1 (a := l.ht) (b := ul.ht) (by omega) (by omega)
    have k2 := w1 (a := 1 + max l.ht ul.ht) (b := ur.ht) (by omega) (by omega)
    simp only [mxI, k1, k2, Int.max_assoc]
    have c1 := tree_close (n := n) (id := id) (q := q) (pl := .pp 2 l.root) (pr := .pp 3 ul.root) (hi := 1 + max l.ht ul.ht) (la := max q.b (max l.bt ul.bt)) (l := l) (r := ul) (Sl := S1) (Sr := S2) (Hr := [ndB u ui uq (.ptr 0 n 0) (.pp 4 ur.root) (1 + max (1 + max l.ht ul.ht) ur.ht) (max uq.b (max q.b (max l.bt (max ul.bt ur.bt)))), trB ur S3]) rfl rfl
    have c2 := tree_close (n := u) (id := ui) (q := uq) (pl := .ptr 0 n 0) (pr := .pp 4 ur.root) (hi := 1 + max (1 + max l.ht ul.ht) ur.ht) (la := max uq.b (max q.b (max l.bt (max ul.bt ur.bt)))) (l := .node n id q (1 + max l.ht ul.ht) (max q.b (max l.bt ul.bt)) l ul) (r := ur) (Sl := n :: (S1 ++ S2)) (Sr := S3) (Hr := []) rfl rfl
    refine ⟨_, rfl, LeH.trans (LeH.trans (leAt [0, 2, 3, 1, 4] (by decide) ?_) c1) (LeH.trans (leAt [1, 0, 2] (by decide) ?_) c2)⟩
    · exact ⟨LeB.refl _, LeB.refl _, LeB.refl _, LeB.refl _, LeB.refl _, trivial⟩
    · exact ⟨LeB.refl _, LeB.refl _, LeB.refl _, trivial⟩)
theorem baR2_lc (n u v : Nat) (id ui vi : Int) (q uq vq : RC) (hi la uh ua vh va : Int) (l ur vl vr : PT) (S1 S2 S3 S4 : List Nat) (bu : 0 ≤ uh ∧ uh ≤ 1000000) (bv : 0 ≤ vh ∧ vh ≤ 1000000) (b1 : 0 ≤ ur.ht ∧ ur.ht ≤ 1000000) (b2 : 0 ≤ vl.ht ∧ vl.ht ≤ 1000000) (b4 : 0 ≤ vr.ht ∧ vr.ht ≤ 1000000) (b3 : 0 ≤ l.ht ∧ l.ht ≤ 1000000) (h1 : uh > l.ht + 1) (h2 : vh > ur.ht) :
    LC Try.prog 61 [.ptr 0 n 0] [ndB n id q (.pp 2 l.root) (.ptr 1 u 0) hi la, ndB u ui uq (.ptr 4 v 0) (.pp 3 ur.root) uh ua, trB l S1, trB ur S2, ndB v vi vq (.pp 5 vl.root) (.pp 6 vr.root) vh va, trB vl S3, trB vr S4] (fun z H' => ∃ S, z.den = .pointer (PT.node n id q hi la l (.node u ui uq uh ua (.node v vi vq vh va vl vr) ur)).bal.root ∧ LeH H' [trB (PT.node n id q hi la l (.node u ui uq uh ua (.node v vi vq vh va vl vr) ur)).bal S]) :=
  baR2_vc n u v id ui vi q uq vq hi la uh ua vh va l ur vl vr S1 S2 S3 S4 (by
    simp only [true_and, and_true]
    have e : (PT.node n id q hi la l (.node u ui uq uh ua (.node v vi vq vh va vl vr) ur)).bal = .node v vi vq (1 + max (1 + max l.ht vl.ht) (1 + max vr.ht ur.ht)) (max vq.b (max (max q.b (max l.bt vl.bt)) (max uq.b (max vr.bt ur.bt)))) (.node n id q (1 + max l.ht vl.ht) (max q.b (max l.bt vl.bt)) l vl) (.node u ui uq (1 + max vr.ht ur.ht) (max uq.b (max vr.bt ur.bt)) vr ur) := by
      have hx : (if (PT.node u ui uq uh ua (.node v vi vq vh va vl vr) ur).lt.ht > (PT.node u ui uq uh ua (.node v vi vq vh va vl vr) ur).rt.ht then (PT.node u ui uq uh ua (.node v vi vq vh va vl vr) ur).turnL else (PT.node u ui uq uh ua (.node v vi vq vh va vl vr) ur)) = (PT.node u ui uq uh ua (.node v vi vq vh va vl vr) ur).turnL := if_pos h2
      refine (if_neg (show ¬ l.ht > uh + 1 by omega)).trans ((if_pos (show uh > l.ht + 1 from h1)).trans ?_)
      rw [hx]
      rfl
    rw [e]
    repeat (refine ⟨_, _, _, rfl, rfl, ?_⟩)
    refine ⟨by omega, ?_⟩
    repeat (refine ⟨_, _, _, rfl, rfl, ?_⟩)
    refine br_intro (fun _ => ?_) (fun h => absurd (of_decide_eq_false h) (by rw [wp (by omega)]; omega))
    refine ⟨by omega, ?_⟩
    repeat (refine ⟨_, _, _, rfl, rfl, ?_⟩)
    refine br_intro (fun h => absurd (of_decide_eq_true h) (by rw [wp (by omega)]; omega)) (fun _ => ?_)
    repeat (refine ⟨_, _, _, rfl, rfl, ?_⟩)
    refine br_intro (fun _ => ?_) (fun h => absurd (of_decide_eq_false h) (by omega))
    repeat (refine ⟨_, _, _, rfl, rfl, ?_⟩)
    have k1 := w1 (a := l.ht) (b := vl.ht) (by omega) (by omega)
    have k2 := w1 (a := vr.ht) (b := ur.ht) (by omega) (by omega)
    have k3 := w1 (a := 1 + max l.ht vl.ht) (b := 1 + max vr.ht ur.ht) (by omega) (by omega)
    simp only [mxI, k1, k2, k3, Int.max_assoc]
    have c1 := tree_close (n := n) (id := id) (q := q) (pl := .pp 2 l.root) (pr := .pp 5 vl.root) (hi := 1 + max l.ht vl.ht) (la := max q.b (max l.bt vl.bt)) (l := l) (r := vl) (Sl := S1) (Sr := S3) (Hr := [ndB u ui uq (.pp 6 vr.root) (.pp 3 ur.root) (1 + max vr.ht ur.ht) (max uq.b (max vr.bt ur.bt)), trB ur S2, ndB v vi vq (.ptr 0 n 0) (.ptr 1 u 0) (1 + max (1 + max l.ht vl.ht) (1 + max vr.ht ur.ht)) (max vq.b (max q.b (max l.bt (max vl.bt (max uq.b (max vr.bt ur.bt)))))), trB vr S4]) rfl rfl
    have c2 := tree_close (n := u) (id := ui) (q := uq) (pl := .pp 6 vr.root) (pr := .pp 3 ur.root) (hi := 1 + max vr.ht ur.ht) (la := max uq.b (max vr.bt ur.bt)) (l := vr) (r := ur) (Sl := S4) (Sr := S2) (Hr := [ndB v vi vq (.ptr 0 n 0) (.ptr 1 u 0) (1 + max (1 + max l.ht vl.ht) (1 + max vr.ht ur.ht)) (max vq.b (max q.b (max l.bt (max vl.bt (max uq.b (max vr.bt ur.bt)))))), trB (.node n id q (1 + max l.ht vl.ht) (max q.b (max l.bt vl.bt)) l vl) (n :: (S1 ++ S3))]) rfl rfl
    have c3 := tree_close (n := v) (id := vi) (q := vq) (pl := .ptr 0 n 0) (pr := .ptr 1 u 0) (hi := 1 + max (1 + max l.ht vl.ht) (1 + max vr.ht ur.ht)) (la := max vq.b (max q.b (max l.bt (max vl.bt (max uq.b (max vr.bt ur.bt)))))) (l := .node n id q (1 + max l.ht vl.ht) (max q.b (max l.bt vl.bt)) l vl) (r := .node u ui uq (1 + max vr.ht ur.ht) (max uq.b (max vr.bt ur.bt)) vr ur) (Sl := n :: (S1 ++ S3)) (Sr := u :: (S4 ++ S2)) (Hr := []) rfl rfl
    refine ⟨_, rfl, LeH.trans (LeH.trans (leAt [0, 2, 5, 1, 3, 4, 6] (by decide) ?_) c1) (LeH.trans (LeH.trans (leAt [1, 4, 2, 3, 0] (by decide) ?_) c2) (LeH.trans (leAt [1, 2, 0] (by decide) ?_) c3))⟩
    · exact ⟨LeB.refl _, LeB.refl _, LeB.refl _, LeB.refl _, LeB.refl _, LeB.refl _, LeB.refl _, trivial⟩
    · exact ⟨LeB.refl _, LeB.refl _, LeB.refl _, LeB.refl _, LeB.refl _, trivial⟩
    · exact ⟨LeB.refl _, LeB.refl _, LeB.refl _, trivial⟩)
end Go.Proofs.Ytjnehpljhnlbfaa
namespace Go.Eng
open Go Go.Sp Go.Proofs.Ytjnehpljhnlbfaa
theorem To.next {H H1 H2 : HH} {w : World} (t : To H H1 w) (l : LeH H1 H2) : To H H2 w := t.trans (l.to t.hp)
theorem To.at {H H1 H2 : HH} {w : World} (t : To H H1 w) (is : List Nat) (hn : is.Nodup) (hb : LeBs (pickH H1 is) H2) : To H H2 w := t.next (leAt is hn hb)
def balH : Handler := fun _ args H K =>
  match args with
  | [.ptr i n 0] =>
    match nth H i with
    | some ⟨m, .cells [.v (.int .i64 id), .v (.int .i64 qt), .v (.int .i64 ql), .v (.int .i64 qb), .v (.int .i64 qr), .pp j pl, .pp k pr, .v (.int .i64 hi), .v (.int .i64 la)] 81, true⟩ =>
      n = m ∧ j ≠ k ∧ ∃ (l r : PT) (Sl Sr : List Nat), nth H j = some (trB l Sl) ∧ nth H k = some (trB r Sr) ∧ pl = l.root ∧ pr = r.root ∧ l.low ∧ r.low ∧
        ∀ (T : PT), T = (PT.node n id ⟨qt, ql, qb, qr⟩ hi la l r).bal → ∀ S, K (.ret (.pp H.length T.root)) (holes H [i, j, k] ++ [trB T S])
    | _ => False
  | _ => False
end Go.Eng
namespace Go.Proofs.Ytjnehpljhnlbfaa
open Go Go.Eng Go.Sp
set_option linter.unusedVariables false
set_option linter.unusedSimpArgs false
theorem bal_enters : Enters Try.prog 61 := enters_of (c := body Try.f61) Try.func61 rfl (by kernel_rfl)
set_option maxHeartbeats 1000000 in
theorem bal_lc (n : Nat) (id : Int) (q : RC) (hi la : Int) (l r : PT) (Sl Sr : List Nat) (hl : l.sm 1000000) (hr : r.sm 1000000) :
    LC Try.prog 61 [.ptr 0 n 0] [ndB n id q (.pp 1 l.root) (.pp 2 r.root) hi la, trB l Sl, trB r Sr] (fun z H' => ∃ S, z.den = .pointer (PT.node n id q hi la l r).bal.root ∧ LeH H' [trB (PT.node n id q hi la l r).bal S]) := by
  have z0 : (0 : Int) ≤ 1000000 := by decide
  have dl := sm_ht z0 hl
  have dr := sm_ht z0 hr
  by_cases h1 : l.ht > r.ht + 1
  · cases l with
    | leaf => have : PT.ht .leaf = 0 := rfl; omega
    | node u ui uq uh ua ul ur =>
      have du := sm_ht z0 hl.2.2.1
      have dv := sm_ht z0 hl.2.2.2
      by_cases h2 : ur.ht > ul.ht
      · cases ur with
        | leaf => have : PT.ht .leaf = 0 := rfl; omega
        | node v vi vq vh va vl vr =>
          refine LC.of_open bal_enters fun w hw => ?_
          have l1 : LeH [ndB n id q (.pp 1 (PT.node u ui uq uh ua ul (.node v vi vq vh va vl vr)).root) (.pp 2 r.root) hi la, trB (.node u ui uq uh ua ul (.node v vi vq vh va vl vr)) Sl, trB r Sr] (trB (.node u ui uq uh ua ul (.node v vi vq vh va vl vr)) Sl :: [ndB n id q (.pp 1 (PT.node u ui uq uh ua ul (.node v vi vq vh va vl vr)).root) (.pp 2 r.root) hi la, trB r Sr]) := leAt [1, 0, 2] (by decide) ⟨LeB.refl _, LeB.refl _, LeB.refl _, trivial⟩
          have t1 := l1.to hw
          obtain ⟨S2, S3, t2⟩ := tree_open t1.hp
          have t3 := (t1.trans t2).at (H2 := (trB (.node v vi vq vh va vl vr) S3 :: [ndB u ui uq (.v (.pointer ul.root)) (.v (.pointer (PT.node v vi vq vh va vl vr).root)) uh ua, trB ul S2, ndB n id q (.pp 1 (PT.node u ui uq uh ua ul (.node v vi vq vh va vl vr)).root) (.pp 2 r.root) hi la, trB r Sr])) [2, 0, 1, 3, 4] (by decide) ⟨LeB.refl _, LeB.refl _, LeB.refl _, LeB.refl _, LeB.refl _, trivial⟩
          obtain ⟨S4, S5, t4⟩ := tree_open t3.hp
          have t5 := (t3.trans t4).at (H2 := [ndB n id q (.ptr 1 u 0) (.pp 2 r.root) hi la, ndB u ui uq (.pp 3 ul.root) (.ptr 4 v 0) uh ua, trB r Sr, trB ul S2, ndB v vi vq (.pp 5 vl.root) (.pp 6 vr.root) vh va, trB vl S4, trB vr S5]) [5, 3, 6, 4, 0, 1, 2] (by decide) ⟨LeB.cells rfl (fun h => h), LeB.cells rfl (fun h => h), LeB.refl _, LeB.refl _, LeB.cells rfl (fun h => h), LeB.refl _, LeB.refl _, trivial⟩
          exact ⟨_, [.ptr 0 n 0], _, t5, rfl, baL2_lc n u v id ui vi q uq vq hi la uh ua vh va ul vl vr r Sr S2 S4 S5 dl dv du (sm_ht z0 hl.2.2.2.2.2.1) (sm_ht z0 hl.2.2.2.2.2.2) dr h1 h2, fun r' H' w' hr' hw' => ⟨r', H', rfl, hr', To.refl hw'⟩⟩
      · refine LC.of_open bal_enters fun w hw => ?_
        have l1 : LeH [ndB n id q (.pp 1 (PT.node u ui uq uh ua ul ur).root) (.pp 2 r.root) hi la, trB (.node u ui uq uh ua ul ur) Sl, trB r Sr] (trB (.node u ui uq uh ua ul ur) Sl :: [ndB n id q (.pp 1 (PT.node u ui uq uh ua ul ur).root) (.pp 2 r.root) hi la, trB r Sr]) := leAt [1, 0, 2] (by decide) ⟨LeB.refl _, LeB.refl _, LeB.refl _, trivial⟩
        have t1 := l1.to hw
        obtain ⟨S2, S3, t2⟩ := tree_open t1.hp
        have t5 := (t1.trans t2).at (H2 := [ndB n id q (.ptr 1 u 0) (.pp 2 r.root) hi la, ndB u ui uq (.pp 3 ul.root) (.pp 4 ur.root) uh ua, trB r Sr, trB ul S2, trB ur S3]) [3, 0, 4, 1, 2] (by decide) ⟨LeB.cells rfl (fun h => h), LeB.cells rfl (fun h => h), LeB.refl _, LeB.refl _, LeB.refl _, trivial⟩
        exact ⟨_, [.ptr 0 n 0], _, t5, rfl, baL_lc n u id ui q uq hi la uh ua ul ur r Sr S2 S3 dl du dv dr h1 h2, fun r' H' w' hr' hw' => ⟨r', H', rfl, hr', To.refl hw'⟩⟩
  · by_cases h2 : r.ht > l.ht + 1
    · cases r with
      | leaf => have : PT.ht .leaf = 0 := rfl; omega
      | node u ui uq uh ua ul ur =>
        have du := sm_ht z0 hr.2.2.1
        have dv := sm_ht z0 hr.2.2.2
        by_cases h3 : ul.ht > ur.ht
        · cases ul with
          | leaf => have : PT.ht .leaf = 0 := rfl; omega
          | node v vi vq vh va vl vr =>
            refine LC.of_open bal_enters fun w hw => ?_
            have l1 : LeH [ndB n id q (.pp 1 l.root) (.pp 2 (PT.node u ui uq uh ua (.node v vi vq vh va vl vr) ur).root) hi la, trB l Sl, trB (.node u ui uq uh ua (.node v vi vq vh va vl vr) ur) Sr] (trB (.node u ui uq uh ua (.node v vi vq vh va vl vr) ur) Sr :: [ndB n id q (.pp 1 l.root) (.pp 2 (PT.node u ui uq uh ua (.node v vi vq vh va vl vr) ur).root) hi la, trB l Sl]) := leAt [2, 0, 1] (by decide) ⟨LeB.refl _, LeB.refl _, LeB.refl _, trivial⟩
            have t1 := l1.to hw
            obtain ⟨S2, S3, t2⟩ := tree_open t1.hp
            have t3 := (t1.trans t2).at (H2 := (trB (.node v vi vq vh va vl vr) S2 :: [ndB u ui uq (.v (.pointer (PT.node v vi vq vh va vl vr).root)) (.v (.pointer ur.root)) uh ua, trB ur S3, ndB n id q (.pp 1 l.root) (.pp 2 (PT.node u ui uq uh ua (.node v vi vq vh va vl vr) ur).root) hi la, trB l Sl])) [1, 0, 2, 3, 4] (by decide) ⟨LeB.refl _, LeB.refl _, LeB.refl _, LeB.refl _, LeB.refl _, trivial⟩
            obtain ⟨S4, S5, t4⟩ := tree_open t3.hp
            have t5 := (t3.trans t4).at (H2 := [ndB n id q (.pp 2 l.root) (.ptr 1 u 0) hi la, ndB u ui uq (.ptr 4 v 0) (.pp 3 ur.root) uh ua, trB l Sl, trB ur S3, ndB v vi vq (.pp 5 vl.root) (.pp 6 vr.root) vh va, trB vl S4, trB vr S5]) [5, 3, 6, 4, 0, 1, 2] (by decide) ⟨LeB.cells rfl (fun h => h), LeB.cells rfl (fun h => h), LeB.refl _, LeB.refl _, LeB.cells rfl (fun h => h), LeB.refl _, LeB.refl _, trivial⟩
            exact ⟨_, [.ptr 0 n 0], _, t5, rfl, baR2_lc n u v id ui vi q uq vq hi la uh ua vh va l ur vl vr Sl S3 S4 S5 dr du dv (sm_ht z0 hr.2.2.1.2.2.1) (sm_ht z0 hr.2.2.1.2.2.2) dl h2 h3, fun r' H' w' hr' hw' => ⟨r', H', rfl, hr', To.refl hw'⟩⟩
        · refine LC.of_open bal_enters fun w hw => ?_
          have l1 : LeH [ndB n id q (.pp 1 l.root) (.pp 2 (PT.node u ui uq uh ua ul ur).root) hi la, trB l Sl, trB (.node u ui uq uh ua ul ur) Sr] (trB (.node u ui uq uh ua ul ur) Sr :: [ndB n id q (.pp 1 l.root) (.pp 2 (PT.node u ui uq uh ua ul ur).root) hi la, trB l Sl]) := leAt [2, 0, 1] (by decide) ⟨LeB.refl _, LeB.refl _, LeB.refl _, trivial⟩
          have t1 := l1.to hw
          obtain ⟨S2, S3, t2⟩ := tree_open t1.hp
          have t5 := (t1.trans t2).at (H2 := [ndB n id q (.pp 2 l.root) (.ptr 1 u 0) hi la, ndB u ui uq (.pp 3 ul.root) (.pp 4 ur.root) uh ua, trB l Sl, trB ul S2, trB ur S3]) [3, 0, 4, 1, 2] (by decide) ⟨LeB.cells rfl (fun h => h), LeB.cells rfl (fun h => h), LeB.refl _, LeB.refl _, LeB.refl _, trivial⟩
          exact ⟨_, [.ptr 0 n 0], _, t5, rfl, baR_lc n u id ui q uq hi la uh ua l ul ur Sl S2 S3 dr du dv dl h2 h3, fun r' H' w' hr' hw' => ⟨r', H', rfl, hr', To.refl hw'⟩⟩
    · exact ba0_lc n id q hi la l r Sl Sr dl dr h1 h2
theorem bal_ok : HOk Try.prog 61 balH := HOk.of_take bal_enters fun rs args H K hk => by
  unfold balH at hk
  split at hk
  · rename_i i n
    split at hk
    · rename_i m id qt ql qb qr j pl k pr hi la h1
      obtain ⟨rfl, hjk, l, r, Sl, Sr, h2, h3, rfl, rfl, hl, hr, hk⟩ := hk
      have hij : i ≠ j := fun e => by rw [e, h2] at h1; cases h1
      have hik : i ≠ k := fun e => by rw [e, h3] at h1; cases h1
      refine ⟨[i, j, k], [ndB n id ⟨qt, ql, qb, qr⟩ (.pp 1 l.root) (.pp 2 r.root) hi la, trB l Sl, trB r Sr], [.ptr 0 n 0], _, by simp [hij, hik, hjk], ?_, rfl, bal_lc n id ⟨qt, ql, qb, qr⟩ hi la l r Sl Sr hl.h hr.h, fun z H' hz => ?_⟩
      · simp only [pickH, h1, h2, h3]
        exact ⟨LeB.cells rfl (fun h => h), LeB.refl _, LeB.refl _, trivial⟩
      · obtain ⟨S, e1, e2⟩ := hz
        exact ⟨_, _, by rw [e1]; rfl, e2, hk _ rfl S⟩
    · exact hk.elim
  · exact hk.elim
end Go.Proofs.Ytjnehpljhnlbfaa
