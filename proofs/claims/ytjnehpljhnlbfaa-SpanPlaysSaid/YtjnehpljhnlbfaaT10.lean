import Derived.Test.YtjnehpljhnlbfaaT8
namespace Go.Sp
open Go.Eng Go.Proofs.Ytjnehpljhnlbfaa
def PT.toL : PT → List (Int × RC)
  | .leaf => []
  | .node _ id q _ _ l r => l.toL ++ (id, q) :: r.toL
def ah (a b : Int × RC) : Prop := a.2.t < b.2.t ∨ (a.2.t = b.2.t ∧ a.1 < b.1)
end Go.Sp
namespace Go.Eng
open Go Go.Sp Go.Proofs.Ytjnehpljhnlbfaa
theorem bal_toL {n : Nat} {id : Int} {q : RC} {hi la : Int} {l r : PT} : (PT.node n id q hi la l r).bal.toL = l.toL ++ (id, q) :: r.toL := by
  have tl : ∀ {n : Nat} {id : Int} {q : RC} {hi la : Int} {l r : PT}, (PT.node n id q hi la l r).turnL.toL = l.toL ++ (id, q) :: r.toL := by
    intro n id q hi la l r
    cases l with
    | leaf => rfl
    | node u ui uq uh ua ul ur => simp [PT.turnL, PT.cnt, PT.toL]
  have tr : ∀ {n : Nat} {id : Int} {q : RC} {hi la : Int} {l r : PT}, (PT.node n id q hi la l r).turnR.toL = l.toL ++ (id, q) :: r.toL := by
    intro n id q hi la l r
    cases r with
    | leaf => rfl
    | node u ui uq uh ua ul ur => simp [PT.turnR, PT.cnt, PT.toL]
  have tl' : ∀ t : PT, t.turnL.toL = t.toL := fun t => by
    cases t with
    | leaf => rfl
    | node n id q hi la l r => exact tl
  have tr' : ∀ t : PT, t.turnR.toL = t.toL := fun t => by
    cases t with
    | leaf => rfl
    | node n id q hi la l r => exact tr
  by_cases h1 : l.ht > r.ht + 1
  · have e : (PT.node n id q hi la l r).bal = (PT.node n id q (1 + max l.ht r.ht) (max q.b (max l.bt r.bt)) (if l.rt.ht > l.lt.ht then l.turnR else l) r).turnL := if_pos h1
    rw [e, tl]
    split
    · rw [tr']
    · rfl
  · by_cases h2 : r.ht > l.ht + 1
    · have e : (PT.node n id q hi la l r).bal = (PT.node n id q (1 + max l.ht r.ht) (max q.b (max l.bt r.bt)) l (if r.lt.ht > r.rt.ht then r.turnL else r)).turnR := (if_neg h1).trans (if_pos h2)
      rw [e, tr]
      split
      · rw [tl']
      · rfl
    · have e : (PT.node n id q hi la l r).bal = (PT.node n id q hi la l r).cnt := (if_neg h1).trans (if_neg h2)
      rw [e]
      rfl
theorem fst_toL : ∀ {t : PT}, t.isLeaf = false → t.toL = (t.fst.2.2.1, t.fst.2.2.2) :: t.fst.1.toL
  | .leaf, h => by cases h
  | .node n id q hi la l r, _ => by
    unfold PT.fst
    split
    · rename_i hl
      cases l with
      | leaf => rfl
      | node _ _ _ _ _ _ _ => cases hl
    · rename_i hl
      have := fst_toL (t := l) (by simpa using hl)
      show l.toL ++ (id, q) :: r.toL = _
      rw [this]
      show _ = _ :: (PT.node n id q hi la l.fst.1 r).bal.toL
      rw [bal_toL]
      rfl
theorem ord_neg {top id kt kid : Int} : ordV top id kt kid < 0 ↔ top < kt ∨ (top = kt ∧ id < kid) := by
  unfold ordV
  repeat' split
  all_goals omega
theorem ord_pos {top id kt kid : Int} : 0 < ordV top id kt kid ↔ kt < top ∨ (top = kt ∧ kid < id) := by
  unfold ordV
  repeat' split
  all_goals omega
theorem ah_trans {a b c : Int × RC} (h : ah a b) (g : ah b c) : ah a c := by unfold ah at *; omega
theorem ah_irr {a : Int × RC} : ¬ ah a a := by unfold ah; omega
theorem ins_toL (nn : Nat) (id : Int) (q : RC) : ∀ {t : PT}, t.toL.Pairwise ah → (∀ x ∈ t.toL, ah (id, q) x ∨ ah x (id, q)) → (t.ins nn id q).toL.Pairwise ah ∧ (t.ins nn id q).toL.Perm ((id, q) :: t.toL)
  | .leaf, _, _ => ⟨by simp [PT.ins, PT.toL], by simp [PT.ins, PT.toL]⟩
  | .node n kid kq h b l r, hs, hx => by
    have hs : (l.toL ++ (kid, kq) :: r.toL).Pairwise ah := hs
    have hx : ∀ x ∈ l.toL ++ (kid, kq) :: r.toL, ah (id, q) x ∨ ah x (id, q) := hx
    obtain ⟨s1, s2, s3⟩ := List.pairwise_append.1 hs
    obtain ⟨s4, s5⟩ := List.pairwise_cons.1 s2
    unfold PT.ins
    split
    · rename_i ho
      have ho := ord_neg.1 ho
      obtain ⟨g1, g2⟩ := ins_toL nn id q (t := l) s1 (fun x hx' => hx x (List.mem_append_left _ hx'))
      rw [bal_toL]
      refine ⟨List.pairwise_append.2 ⟨g1, s2, fun a ha c hc => ?_⟩, ?_⟩
      · rcases List.mem_cons.1 (g2.mem_iff.1 ha) with rfl | ha
        · have hk : ah (id, q) (kid, kq) := ho
          rcases List.mem_cons.1 hc with rfl | hc
          · exact hk
          · exact ah_trans hk (s4 c hc)
        · exact s3 a ha c hc
      · exact (g2.append_right _)
    · rename_i ho
      obtain ⟨g1, g2⟩ := ins_toL nn id q (t := r) s5 (fun x hx' => hx x (List.mem_append_right _ (List.mem_cons_of_mem _ hx')))
      have hk : ah (kid, kq) (id, q) := by
        rcases hx (kid, kq) (List.mem_append_right _ (List.mem_cons_self ..)) with h | h
        · exact absurd (ord_neg.2 h) ho
        · exact h
      rw [bal_toL]
      refine ⟨List.pairwise_append.2 ⟨s1, List.pairwise_cons.2 ⟨fun c hc => ?_, g1⟩, fun a ha c hc => ?_⟩, ?_⟩
      · rcases List.mem_cons.1 (g2.mem_iff.1 hc) with rfl | hc
        · exact hk
        · exact s4 c hc
      · rcases List.mem_cons.1 hc with rfl | hc
        · exact s3 a ha _ (List.mem_cons_self ..)
        · rcases List.mem_cons.1 (g2.mem_iff.1 hc) with rfl | hc
          · exact ah_trans (s3 a ha _ (List.mem_cons_self ..)) hk
          · exact s3 a ha c (List.mem_cons_of_mem _ hc)
      · refine (List.Perm.append_left _ (g2.cons _)).trans ?_
        refine (List.Perm.append_left _ (List.Perm.swap ..)).trans ?_
        exact List.perm_middle
end Go.Eng
namespace Go.Sp
open Go.Eng Go.Proofs.Ytjnehpljhnlbfaa
def PT.avl : PT → Prop
  | .leaf => True
  | .node _ _ _ _ _ l r => l.ht ≤ r.ht + 1 ∧ r.ht ≤ l.ht + 1 ∧ l.avl ∧ r.avl
end Go.Sp
namespace Go.Eng
open Go Go.Sp Go.Proofs.Ytjnehpljhnlbfaa
theorem del_toL (id : Int) (q : RC) : ∀ {t : PT}, t.toL.Pairwise ah → (id, q) ∈ t.toL → t.has id q = true ∧ t.toL.Perm ((id, q) :: (t.del id q).toL) ∧ (t.del id q).toL.Sublist t.toL
  | .leaf, _, h => by cases h
  | .node n kid kq h b l r, hs, hx => by
    have hs : (l.toL ++ (kid, kq) :: r.toL).Pairwise ah := hs
    have hx : (id, q) ∈ l.toL ++ (kid, kq) :: r.toL := hx
    obtain ⟨s1, s2, s3⟩ := List.pairwise_append.1 hs
    obtain ⟨s4, s5⟩ := List.pairwise_cons.1 s2
    unfold PT.has PT.del
    rcases List.mem_append.1 hx with hx | hx
    · have hk : ah (id, q) (kid, kq) := s3 _ hx _ (List.mem_cons_self ..)
      have ho : ordV q.t id kq.t kid < 0 := ord_neg.2 hk
      obtain ⟨g1, g2, g3⟩ := del_toL id q (t := l) s1 hx
      rw [if_pos (by omega), if_pos ho, if_pos (by omega), if_pos ho, bal_toL]
      refine ⟨g1, ?_, g3.append_right _⟩
      exact (g2.append_right _)
    · rcases List.mem_cons.1 hx with hx | hx
      · have e1 : id = kid := (Prod.mk.inj hx).1
        have e2 : q = kq := (Prod.mk.inj hx).2
        subst e1
        subst e2
        have ho : ¬ ordV q.t id q.t id ≠ 0 := by unfold ordV; simp
        rw [if_neg ho, if_neg ho]
        refine ⟨rfl, ?_⟩
        split
        · rename_i hl
          cases l with
          | leaf => exact ⟨List.Perm.refl _, List.sublist_cons_self ..⟩
          | node _ _ _ _ _ _ _ => cases hl
        · split
          · rename_i hr
            cases r with
            | leaf => exact ⟨List.perm_middle.trans (by simp [PT.toL]), List.sublist_append_left ..⟩
            | node _ _ _ _ _ _ _ => cases hr
          · rename_i hr
            have e := fst_toL (t := r) (by simpa using hr)
            rw [bal_toL]
            have e2 : l.toL ++ (r.fst.2.2.1, r.fst.2.2.2) :: r.fst.1.toL = l.toL ++ r.toL := by rw [e]
            rw [e2]
            exact ⟨List.perm_middle, List.Sublist.append_left (List.sublist_cons_self ..) _⟩
      · have hk : ah (kid, kq) (id, q) := s4 _ hx
        have ho : ¬ ordV q.t id kq.t kid < 0 := fun h => ah_irr (ah_trans hk (ord_neg.1 h))
        have ho2 : ordV q.t id kq.t kid ≠ 0 := by
          have : 0 < ordV q.t id kq.t kid := ord_pos.2 (by unfold ah at hk; simp only at hk; omega)
          omega
        obtain ⟨g1, g2, g3⟩ := del_toL id q (t := r) s5 hx
        rw [if_pos ho2, if_neg ho, if_pos ho2, if_neg ho, bal_toL]
        refine ⟨g1, ?_, List.Sublist.append_left (g3.cons_cons _) _⟩
        refine (List.Perm.append_left _ (g2.cons _)).trans ?_
        refine (List.Perm.append_left _ (List.Perm.swap ..)).trans ?_
        exact List.perm_middle
theorem bal_avl {n : Nat} {id : Int} {q : RC} {hi la : Int} {l r : PT} (hl : l.wf) (hr : r.wf) (al : l.avl) (ar : r.avl) (h1 : l.ht ≤ r.ht + 2) (h2 : r.ht ≤ l.ht + 2) :
    (PT.node n id q hi la l r).bal.avl ∧ ((PT.node n id q hi la l r).bal.ht = 1 + max l.ht r.ht ∨ ((PT.node n id q hi la l r).bal.ht = max l.ht r.ht ∧ (l.ht = r.ht + 2 ∨ r.ht = l.ht + 2))) := by
  by_cases g1 : l.ht > r.ht + 1
  · cases l with
    | leaf =>
      have h2 := (wf_ht hr).1
      have : PT.ht .leaf = 0 := rfl
      omega
    | node u ui uq uh ua ul ur =>
      have e0 : PT.ht (.node u ui uq uh ua ul ur) = uh := rfl
      have e1 : uh = 1 + max ul.ht ur.ht := hl.1
      obtain ⟨a1, a2, a3, a4⟩ := al
      by_cases g2 : ur.ht > ul.ht
      · cases ur with
        | leaf =>
          have h3 := (wf_ht hl.2.2.1).1
          have : PT.ht .leaf = 0 := rfl
          omega
        | node v vi vq vh va vl vr =>
          have e2 : PT.ht (.node v vi vq vh va vl vr) = vh := rfl
          have e3 : vh = 1 + max vl.ht vr.ht := hl.2.2.2.1
          obtain ⟨b1, b2, b3, b4⟩ := a4
          have hx : (if (PT.node u ui uq uh ua ul (.node v vi vq vh va vl vr)).rt.ht > (PT.node u ui uq uh ua ul (.node v vi vq vh va vl vr)).lt.ht then (PT.node u ui uq uh ua ul (.node v vi vq vh va vl vr)).turnR else (PT.node u ui uq uh ua ul (.node v vi vq vh va vl vr))) = (PT.node u ui uq uh ua ul (.node v vi vq vh va vl vr)).turnR := if_pos g2
          have e : (PT.node n id q hi la (.node u ui uq uh ua ul (.node v vi vq vh va vl vr)) r).bal = (PT.node v vi vq 0 0 (PT.node u ui uq 0 0 ul vl).cnt (PT.node n id q 0 0 vr r).cnt).cnt := by
            refine (if_pos g1).trans ?_
            rw [hx]
            rfl
          have k1 : (PT.node u ui uq 0 0 ul vl).cnt.ht = 1 + max ul.ht vl.ht := rfl
          have k2 : (PT.node n id q 0 0 vr r).cnt.ht = 1 + max vr.ht r.ht := rfl
          have k3 : (PT.node v vi vq 0 0 (PT.node u ui uq 0 0 ul vl).cnt (PT.node n id q 0 0 vr r).cnt).cnt.ht = 1 + max (1 + max ul.ht vl.ht) (1 + max vr.ht r.ht) := rfl
          rw [e]
          refine ⟨⟨by rw [k1, k2]; omega, by rw [k1, k2]; omega, ⟨by omega, by omega, a3, b3⟩, ⟨by omega, by omega, b4, ar⟩⟩, ?_⟩
          rw [k3]
          omega
      · have hx : (if (PT.node u ui uq uh ua ul ur).rt.ht > (PT.node u ui uq uh ua ul ur).lt.ht then (PT.node u ui uq uh ua ul ur).turnR else (PT.node u ui uq uh ua ul ur)) = (PT.node u ui uq uh ua ul ur) := if_neg g2
        have e : (PT.node n id q hi la (.node u ui uq uh ua ul ur) r).bal = (PT.node u ui uq 0 0 ul (PT.node n id q 0 0 ur r).cnt).cnt := by
          refine (if_pos g1).trans ?_
          rw [hx]
          rfl
        have k1 : (PT.node n id q 0 0 ur r).cnt.ht = 1 + max ur.ht r.ht := rfl
        have k3 : (PT.node u ui uq 0 0 ul (PT.node n id q 0 0 ur r).cnt).cnt.ht = 1 + max ul.ht (1 + max ur.ht r.ht) := rfl
        rw [e]
        refine ⟨⟨by rw [k1]; omega, by rw [k1]; omega, a3, ⟨by omega, by omega, a4, ar⟩⟩, ?_⟩
        rw [k3]
        omega
  · by_cases g2 : r.ht > l.ht + 1
    · cases r with
      | leaf =>
        have h3 := (wf_ht hl).1
        have : PT.ht .leaf = 0 := rfl
        omega
      | node u ui uq uh ua ul ur =>
        have e0 : PT.ht (.node u ui uq uh ua ul ur) = uh := rfl
        have e1 : uh = 1 + max ul.ht ur.ht := hr.1
        obtain ⟨a1, a2, a3, a4⟩ := ar
        by_cases g3 : ul.ht > ur.ht
        · cases ul with
          | leaf =>
            have h4 := (wf_ht hr.2.2.2).1
            have : PT.ht .leaf = 0 := rfl
            omega
          | node v vi vq vh va vl vr =>
            have e2 : PT.ht (.node v vi vq vh va vl vr) = vh := rfl
            have e3 : vh = 1 + max vl.ht vr.ht := hr.2.2.1.1
            obtain ⟨b1, b2, b3, b4⟩ := a3
            have hx : (if (PT.node u ui uq uh ua (.node v vi vq vh va vl vr) ur).lt.ht > (PT.node u ui uq uh ua (.node v vi vq vh va vl vr) ur).rt.ht then (PT.node u ui uq uh ua (.node v vi vq vh va vl vr) ur).turnL else (PT.node u ui uq uh ua (.node v vi vq vh va vl vr) ur)) = (PT.node u ui uq uh ua (.node v vi vq vh va vl vr) ur).turnL := if_pos g3
            have e : (PT.node n id q hi la l (.node u ui uq uh ua (.node v vi vq vh va vl vr) ur)).bal = (PT.node v vi vq 0 0 (PT.node n id q 0 0 l vl).cnt (PT.node u ui uq 0 0 vr ur).cnt).cnt := by
              refine (if_neg g1).trans ((if_pos g2).trans ?_)
              rw [hx]
              rfl
            have k1 : (PT.node n id q 0 0 l vl).cnt.ht = 1 + max l.ht vl.ht := rfl
            have k2 : (PT.node u ui uq 0 0 vr ur).cnt.ht = 1 + max vr.ht ur.ht := rfl
            have k3 : (PT.node v vi vq 0 0 (PT.node n id q 0 0 l vl).cnt (PT.node u ui uq 0 0 vr ur).cnt).cnt.ht = 1 + max (1 + max l.ht vl.ht) (1 + max vr.ht ur.ht) := rfl
            rw [e]
            refine ⟨⟨by rw [k1, k2]; omega, by rw [k1, k2]; omega, ⟨by omega, by omega, al, b3⟩, ⟨by omega, by omega, b4, a4⟩⟩, ?_⟩
            rw [k3]
            omega
        · have hx : (if (PT.node u ui uq uh ua ul ur).lt.ht > (PT.node u ui uq uh ua ul ur).rt.ht then (PT.node u ui uq uh ua ul ur).turnL else (PT.node u ui uq uh ua ul ur)) = (PT.node u ui uq uh ua ul ur) := if_neg g3
          have e : (PT.node n id q hi la l (.node u ui uq uh ua ul ur)).bal = (PT.node u ui uq 0 0 (PT.node n id q 0 0 l ul).cnt ur).cnt := by
            refine (if_neg g1).trans ((if_pos g2).trans ?_)
            rw [hx]
            rfl
          have k1 : (PT.node n id q 0 0 l ul).cnt.ht = 1 + max l.ht ul.ht := rfl
          have k3 : (PT.node u ui uq 0 0 (PT.node n id q 0 0 l ul).cnt ur).cnt.ht = 1 + max (1 + max l.ht ul.ht) ur.ht := rfl
          rw [e]
          refine ⟨⟨by rw [k1]; omega, by rw [k1]; omega, ⟨by omega, by omega, al, a3⟩, a4⟩, ?_⟩
          rw [k3]
          omega
    · have e : (PT.node n id q hi la l r).bal = (PT.node n id q hi la l r).cnt := (if_neg g1).trans (if_neg g2)
      rw [e]
      exact ⟨⟨by omega, by omega, al, ar⟩, .inl rfl⟩
theorem ins_avl (nn : Nat) (id : Int) (q : RC) (hq : 0 ≤ q.b) : ∀ {t : PT}, t.wf → t.avl → (t.ins nn id q).avl ∧ ((t.ins nn id q).ht = t.ht ∨ (t.ins nn id q).ht = t.ht + 1)
  | .leaf, _, _ => ⟨⟨by decide, by decide, trivial, trivial⟩, .inr rfl⟩
  | .node n kid kq h b l r, hw, ha => by
    obtain ⟨a1, a2, a3, a4⟩ := ha
    have e : h = 1 + max l.ht r.ht := hw.1
    have e0 : PT.ht (.node n kid kq h b l r) = h := rfl
    unfold PT.ins
    split
    · obtain ⟨g1, g2⟩ := ins_both nn id q hq hw.2.2.1
      obtain ⟨g3, g4⟩ := ins_avl nn id q hq hw.2.2.1 a3
      obtain ⟨k1, k2⟩ := bal_avl (n := n) (id := kid) (q := kq) (hi := h) (la := b) g1 hw.2.2.2 g3 a4 (by omega) (by omega)
      exact ⟨k1, by rw [e0]; omega⟩
    · obtain ⟨g1, g2⟩ := ins_both nn id q hq hw.2.2.2
      obtain ⟨g3, g4⟩ := ins_avl nn id q hq hw.2.2.2 a4
      obtain ⟨k1, k2⟩ := bal_avl (n := n) (id := kid) (q := kq) (hi := h) (la := b) hw.2.2.1 g1 a3 g3 (by omega) (by omega)
      exact ⟨k1, by rw [e0]; omega⟩
theorem fst_avl : ∀ {t : PT}, t.wf → t.avl → t.isLeaf = false → t.fst.1.avl ∧ (t.fst.1.ht = t.ht ∨ t.fst.1.ht + 1 = t.ht)
  | .leaf, _, _, h => by cases h
  | .node n id q hi la l r, hw, ha, _ => by
    obtain ⟨a1, a2, a3, a4⟩ := ha
    have e : hi = 1 + max l.ht r.ht := hw.1
    have e0 : PT.ht (.node n id q hi la l r) = hi := rfl
    unfold PT.fst
    split
    · rename_i hl
      cases l with
      | leaf =>
        have z : PT.ht .leaf = 0 := rfl
        have := (wf_ht hw.2.2.2).1
        exact ⟨a4, by rw [e0]; show r.ht = hi ∨ r.ht + 1 = hi; omega⟩
      | node _ _ _ _ _ _ _ => cases hl
    · rename_i hl
      obtain ⟨g1, g2⟩ := fst_both hw.2.2.1 (by simpa using hl)
      obtain ⟨g3, g4⟩ := fst_avl hw.2.2.1 a3 (by simpa using hl)
      obtain ⟨k1, k2⟩ := bal_avl (n := n) (id := id) (q := q) (hi := hi) (la := la) g1 hw.2.2.2 g3 a4 (by omega) (by omega)
      exact ⟨k1, by rw [e0]; show (PT.node n id q hi la l.fst.1 r).bal.ht = hi ∨ (PT.node n id q hi la l.fst.1 r).bal.ht + 1 = hi; omega⟩
theorem del_avl (id : Int) (q : RC) : ∀ {t : PT}, t.wf → t.avl → t.has id q = true → (t.del id q).avl ∧ ((t.del id q).ht = t.ht ∨ (t.del id q).ht + 1 = t.ht)
  | .leaf, _, _, h => by cases h
  | .node n kid kq h b l r, hw, ha, hh => by
    obtain ⟨a1, a2, a3, a4⟩ := ha
    have e : h = 1 + max l.ht r.ht := hw.1
    have e0 : PT.ht (.node n kid kq h b l r) = h := rfl
    have zl := (wf_ht hw.2.2.1).1
    have zr := (wf_ht hw.2.2.2).1
    unfold PT.has at hh
    unfold PT.del
    split
    · rename_i ho
      rw [if_pos ho] at hh
      split
      · rename_i h2
        rw [if_pos h2] at hh
        obtain ⟨g1, g2⟩ := del_both id q hw.2.2.1 hh
        obtain ⟨g3, g4⟩ := del_avl id q hw.2.2.1 a3 hh
        obtain ⟨k1, k2⟩ := bal_avl (n := n) (id := kid) (q := kq) (hi := h) (la := b) g1 hw.2.2.2 g3 a4 (by omega) (by omega)
        exact ⟨k1, by rw [e0]; omega⟩
      · rename_i h2
        rw [if_neg h2] at hh
        obtain ⟨g1, g2⟩ := del_both id q hw.2.2.2 hh
        obtain ⟨g3, g4⟩ := del_avl id q hw.2.2.2 a4 hh
        obtain ⟨k1, k2⟩ := bal_avl (n := n) (id := kid) (q := kq) (hi := h) (la := b) hw.2.2.1 g1 a3 g3 (by omega) (by omega)
        exact ⟨k1, by rw [e0]; omega⟩
    · split
      · rename_i hl
        cases l with
        | leaf =>
          have z : PT.ht .leaf = 0 := rfl
          exact ⟨a4, by rw [e0]; omega⟩
        | node _ _ _ _ _ _ _ => cases hl
      · split
        · rename_i hr
          cases r with
          | leaf =>
            have z : PT.ht .leaf = 0 := rfl
            exact ⟨a3, by rw [e0]; omega⟩
          | node _ _ _ _ _ _ _ => cases hr
        · rename_i hr
          obtain ⟨g1, g2⟩ := fst_both hw.2.2.2 (by simpa using hr)
          obtain ⟨g3, g4⟩ := fst_avl hw.2.2.2 a4 (by simpa using hr)
          obtain ⟨k1, k2⟩ := bal_avl (n := r.fst.2.1) (id := r.fst.2.2.1) (q := r.fst.2.2.2) (hi := 0) (la := 0) hw.2.2.1 g1 a3 g3 (by omega) (by omega)
          exact ⟨k1, by rw [e0]; omega⟩
theorem avl_pow : ∀ {t : PT}, t.wf → t.avl → 2 ^ (t.ht.toNat / 2) ≤ t.sz + 1
  | .leaf, _, _ => by decide
  | .node n id q hi la l r, hw, ha => by
    obtain ⟨a1, a2, a3, a4⟩ := ha
    have e : hi = 1 + max l.ht r.ht := hw.1
    have zl := (wf_ht hw.2.2.1).1
    have zr := (wf_ht hw.2.2.2).1
    have i1 := avl_pow hw.2.2.1 a3
    have i2 := avl_pow hw.2.2.2 a4
    show 2 ^ (hi.toNat / 2) ≤ l.sz + r.sz + 1 + 1
    by_cases h1 : hi.toNat / 2 = 0
    · rw [h1]; show 1 ≤ _; omega
    · have m1 : 2 ^ (hi.toNat / 2 - 1) ≤ 2 ^ (l.ht.toNat / 2) := Nat.pow_le_pow_right (by decide) (by omega)
      have m2 : 2 ^ (hi.toNat / 2 - 1) ≤ 2 ^ (r.ht.toNat / 2) := Nat.pow_le_pow_right (by decide) (by omega)
      have m3 : 2 ^ (hi.toNat / 2) = 2 ^ (hi.toNat / 2 - 1) * 2 := by
        rw [← Nat.pow_succ]
        congr 1
        omega
      omega
end Go.Eng
