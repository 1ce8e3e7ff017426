/- Span: trees as lists: the plain law. -/
import Derived.Test.YtjnehpljhnlbfaaT9
namespace Go.Sp
open Go.Eng Go.Proofs.Ytjnehpljhnlbfaa

def PT.toL : PT → List (Int × RC)
  | .leaf => []
  | .node _ id q _ _ l r => l.toL ++ (id, q) :: r.toL
/-- One stands ahead of another. -/
def ah (a b : Int × RC) : Prop := a.2.t < b.2.t ∨ (a.2.t = b.2.t ∧ a.1 < b.1)

end Go.Sp
namespace Go.Eng
open Go Go.Sp Go.Proofs.Ytjnehpljhnlbfaa

theorem bal_toL {n : Nat} {id : Int} {q : RC} {hi la : Int} {l r : PT} : (PT.node n id q hi la l r).bal.toL = l.toL ++ (id, q) :: r.toL := by
  have tl : ∀ {n : Nat} {id : Int} {q : RC} {hi la : Int} {l r : PT}, (PT.node n id q hi la l r).turnL.toL = l.toL ++ (id, q) :: r.toL := by
    intro n id q hi la l r
    cases l with
    | leaf => rfl
    | node u ui uq uh ua ul ur => simp [PT.turnL, PT.cnt, PT.toL]
  have tr : ∀ {n : Nat} {id : Int} {q : RC} {hi la : Int} {l r : PT}, (PT.node n id q hi la l r).turnR.toL = l.toL ++ (id, q) :: r.toL := by
    intro n id q hi la l r
    cases r with
    | leaf => rfl
    | node u ui uq uh ua ul ur => simp [PT.turnR, PT.cnt, PT.toL]
  have tl' : ∀ t : PT, t.turnL.toL = t.toL := fun t => by
    cases t with
    | leaf => rfl
    | node n id q hi la l r => exact tl
  have tr' : ∀ t : PT, t.turnR.toL = t.toL := fun t => by
    cases t with
    | leaf => rfl
    | node n id q hi la l r => exact tr
  by_cases h1 : l.ht > r.ht + 1
  · have e : (PT.node n id q hi la l r).bal = (PT.node n id q (1 + max l.ht r.ht) (max q.b (max l.bt r.bt)) (if l.rt.ht > l.lt.ht then l.turnR else l) r).turnL := if_pos h1
    rw [e, tl]
    split
    · rw [tr']
    · rfl
  · by_cases h2 : r.ht > l.ht + 1
    · have e : (PT.node n id q hi la l r).bal = (PT.node n id q (1 + max l.ht r.ht) (max q.b (max l.bt r.bt)) l (if r.lt.ht > r.rt.ht then r.turnL else r)).turnR := (if_neg h1).trans (if_pos h2)
      rw [e, tr]
      split
      · rw [tl']
      · rfl
    · have e : (PT.node n id q hi la l r).bal = (PT.node n id q hi la l r).cnt := (if_neg h1).trans (if_neg h2)
      rw [e]
      rfl

theorem fst_toL : ∀ {t : PT}, t.isLeaf = false → t.toL = (t.fst.2.2.1, t.fst.2.2.2) :: t.fst.1.toL
  | .leaf, h => by cases h
  | .node n id q hi la l r, _ => by
    unfold PT.fst
    split
    · rename_i hl
      cases l with
      | leaf => rfl
      | node _ _ _ _ _ _ _ => cases hl
    · rename_i hl
      have := fst_toL (t := l) (by simpa using hl)
      show l.toL ++ (id, q) :: r.toL = _
      rw [this]
      show _ = _ :: (PT.node n id q hi la l.fst.1 r).bal.toL
      rw [bal_toL]
      rfl

theorem ord_neg {top id kt kid : Int} : ordV top id kt kid < 0 ↔ top < kt ∨ (top = kt ∧ id < kid) := by
  unfold ordV
  repeat' split
  all_goals omega
theorem ord_pos {top id kt kid : Int} : 0 < ordV top id kt kid ↔ kt < top ∨ (top = kt ∧ kid < id) := by
  unfold ordV
  repeat' split
  all_goals omega

theorem ah_trans {a b c : Int × RC} (h : ah a b) (g : ah b c) : ah a c := by unfold ah at *; omega
theorem ah_irr {a : Int × RC} : ¬ ah a a := by unfold ah; omega

/-- A rectangle more: in its place. -/
theorem ins_toL (nn : Nat) (id : Int) (q : RC) : ∀ {t : PT}, t.toL.Pairwise ah → (∀ x ∈ t.toL, ah (id, q) x ∨ ah x (id, q)) → (t.ins nn id q).toL.Pairwise ah ∧ (t.ins nn id q).toL.Perm ((id, q) :: t.toL)
  | .leaf, _, _ => ⟨by simp [PT.ins, PT.toL], by simp [PT.ins, PT.toL]⟩
  | .node n kid kq h b l r, hs, hx => by
    have hs : (l.toL ++ (kid, kq) :: r.toL).Pairwise ah := hs
    have hx : ∀ x ∈ l.toL ++ (kid, kq) :: r.toL, ah (id, q) x ∨ ah x (id, q) := hx
    obtain ⟨s1, s2, s3⟩ := List.pairwise_append.1 hs
    obtain ⟨s4, s5⟩ := List.pairwise_cons.1 s2
    unfold PT.ins
    split
    · rename_i ho
      have ho := ord_neg.1 ho
      obtain ⟨g1, g2⟩ := ins_toL nn id q (t := l) s1 (fun x hx' => hx x (List.mem_append_left _ hx'))
      rw [bal_toL]
      refine ⟨List.pairwise_append.2 ⟨g1, s2, fun a ha c hc => ?_⟩, ?_⟩
      · rcases List.mem_cons.1 (g2.mem_iff.1 ha) with rfl | ha
        · have hk : ah (id, q) (kid, kq) := ho
          rcases List.mem_cons.1 hc with rfl | hc
          · exact hk
          · exact ah_trans hk (s4 c hc)
        · exact s3 a ha c hc
      · exact (g2.append_right _)
    · rename_i ho
      obtain ⟨g1, g2⟩ := ins_toL nn id q (t := r) s5 (fun x hx' => hx x (List.mem_append_right _ (List.mem_cons_of_mem _ hx')))
      have hk : ah (kid, kq) (id, q) := by
        rcases hx (kid, kq) (List.mem_append_right _ (List.mem_cons_self ..)) with h | h
        · exact absurd (ord_neg.2 h) ho
        · exact h
      rw [bal_toL]
      refine ⟨List.pairwise_append.2 ⟨s1, List.pairwise_cons.2 ⟨fun c hc => ?_, g1⟩, fun a ha c hc => ?_⟩, ?_⟩
      · rcases List.mem_cons.1 (g2.mem_iff.1 hc) with rfl | hc
        · exact hk
        · exact s4 c hc
      · rcases List.mem_cons.1 hc with rfl | hc
        · exact s3 a ha _ (List.mem_cons_self ..)
        · rcases List.mem_cons.1 (g2.mem_iff.1 hc) with rfl | hc
          · exact ah_trans (s3 a ha _ (List.mem_cons_self ..)) hk
          · exact s3 a ha c (List.mem_cons_of_mem _ hc)
      · refine (List.Perm.append_left _ (g2.cons _)).trans ?_
        refine (List.Perm.append_left _ (List.Perm.swap ..)).trans ?_
        exact List.perm_middle

end Go.Eng

