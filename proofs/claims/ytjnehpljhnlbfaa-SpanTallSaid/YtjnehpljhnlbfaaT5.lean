/- Span: a knot is balanced: the contract. -/
import Derived.Test.YtjnehpljhnlbfaaT4
namespace Go.Eng
open Go Go.Sp Go.Proofs.Ytjnehpljhnlbfaa

theorem To.next {H H1 H2 : HH} {w : World} (t : To H H1 w) (l : LeH H1 H2) : To H H2 w := t.trans (l.to t.hp)

theorem To.at {H H1 H2 : HH} {w : World} (t : To H H1 w) (is : List Nat) (hn : is.Nodup) (hb : LeBs (pickH H1 is) H2) : To H H2 w := t.next (leAt is hn hb)

/-- Balancing, as a handler: the knot and both sides are taken, one tree comes of them. -/
def balH : Handler := fun _ args H K =>
  match args with
  | [.ptr i n 0] =>
    match nth H i with
    | some ⟨m, .cells [.v (.int .i64 id), .v (.int .i64 qt), .v (.int .i64 ql), .v (.int .i64 qb), .v (.int .i64 qr), .pp j pl, .pp k pr, .v (.int .i64 hi), .v (.int .i64 la)] 81, true⟩ =>
      n = m ∧ j ≠ k ∧ ∃ (l r : PT) (Sl Sr : List Nat), nth H j = some (trB l Sl) ∧ nth H k = some (trB r Sr) ∧ pl = l.root ∧ pr = r.root ∧ l.low ∧ r.low ∧
        ∀ (T : PT), T = (PT.node n id ⟨qt, ql, qb, qr⟩ hi la l r).bal → ∀ S, K (.ret (.pp H.length T.root)) (holes H [i, j, k] ++ [trB T S])
    | _ => False
  | _ => False

end Go.Eng
namespace Go.Proofs.Ytjnehpljhnlbfaa
open Go Go.Eng Go.Sp
set_option linter.unusedVariables false
set_option linter.unusedSimpArgs false

theorem bal_enters : Enters Try.prog 61 := enters_of (c := body Try.f61) Try.func61 rfl (by kernel_rfl)

set_option maxHeartbeats 1000000 in
theorem bal_lc (n : Nat) (id : Int) (q : RC) (hi la : Int) (l r : PT) (Sl Sr : List Nat) (hl : l.sm 1000000) (hr : r.sm 1000000) :
    LC Try.prog 61 [.ptr 0 n 0] [ndB n id q (.pp 1 l.root) (.pp 2 r.root) hi la, trB l Sl, trB r Sr] (fun z H' => ∃ S, z.den = .pointer (PT.node n id q hi la l r).bal.root ∧ LeH H' [trB (PT.node n id q hi la l r).bal S]) := by
  have z0 : (0 : Int) ≤ 1000000 := by decide
  have dl := sm_ht z0 hl
  have dr := sm_ht z0 hr
  by_cases h1 : l.ht > r.ht + 1
  · cases l with
    | leaf => have : PT.ht .leaf = 0 := rfl; omega
    | node u ui uq uh ua ul ur =>
      have du := sm_ht z0 hl.2.2.1
      have dv := sm_ht z0 hl.2.2.2
      by_cases h2 : ur.ht > ul.ht
      · cases ur with
        | leaf => have : PT.ht .leaf = 0 := rfl; omega
        | node v vi vq vh va vl vr =>
          refine LC.of_open bal_enters fun w hw => ?_
          have l1 : LeH [ndB n id q (.pp 1 (PT.node u ui uq uh ua ul (.node v vi vq vh va vl vr)).root) (.pp 2 r.root) hi la, trB (.node u ui uq uh ua ul (.node v vi vq vh va vl vr)) Sl, trB r Sr] (trB (.node u ui uq uh ua ul (.node v vi vq vh va vl vr)) Sl :: [ndB n id q (.pp 1 (PT.node u ui uq uh ua ul (.node v vi vq vh va vl vr)).root) (.pp 2 r.root) hi la, trB r Sr]) := leAt [1, 0, 2] (by decide) ⟨LeB.refl _, LeB.refl _, LeB.refl _, trivial⟩
          have t1 := l1.to hw
          obtain ⟨S2, S3, t2⟩ := tree_open t1.hp
          have t3 := (t1.trans t2).at (H2 := (trB (.node v vi vq vh va vl vr) S3 :: [ndB u ui uq (.v (.pointer ul.root)) (.v (.pointer (PT.node v vi vq vh va vl vr).root)) uh ua, trB ul S2, ndB n id q (.pp 1 (PT.node u ui uq uh ua ul (.node v vi vq vh va vl vr)).root) (.pp 2 r.root) hi la, trB r Sr])) [2, 0, 1, 3, 4] (by decide) ⟨LeB.refl _, LeB.refl _, LeB.refl _, LeB.refl _, LeB.refl _, trivial⟩
          obtain ⟨S4, S5, t4⟩ := tree_open t3.hp
          have t5 := (t3.trans t4).at (H2 := [ndB n id q (.ptr 1 u 0) (.pp 2 r.root) hi la, ndB u ui uq (.pp 3 ul.root) (.ptr 4 v 0) uh ua, trB r Sr, trB ul S2, ndB v vi vq (.pp 5 vl.root) (.pp 6 vr.root) vh va, trB vl S4, trB vr S5]) [5, 3, 6, 4, 0, 1, 2] (by decide) ⟨LeB.cells rfl (fun h => h), LeB.cells rfl (fun h => h), LeB.refl _, LeB.refl _, LeB.cells rfl (fun h => h), LeB.refl _, LeB.refl _, trivial⟩
          exact ⟨_, [.ptr 0 n 0], _, t5, rfl, baL2_lc n u v id ui vi q uq vq hi la uh ua vh va ul vl vr r Sr S2 S4 S5 dl dv du (sm_ht z0 hl.2.2.2.2.2.1) (sm_ht z0 hl.2.2.2.2.2.2) dr h1 h2, fun r' H' w' hr' hw' => ⟨r', H', rfl, hr', To.refl hw'⟩⟩
      · refine LC.of_open bal_enters fun w hw => ?_
        have l1 : LeH [ndB n id q (.pp 1 (PT.node u ui uq uh ua ul ur).root) (.pp 2 r.root) hi la, trB (.node u ui uq uh ua ul ur) Sl, trB r Sr] (trB (.node u ui uq uh ua ul ur) Sl :: [ndB n id q (.pp 1 (PT.node u ui uq uh ua ul ur).root) (.pp 2 r.root) hi la, trB r Sr]) := leAt [1, 0, 2] (by decide) ⟨LeB.refl _, LeB.refl _, LeB.refl _, trivial⟩
        have t1 := l1.to hw
        obtain ⟨S2, S3, t2⟩ := tree_open t1.hp
        have t5 := (t1.trans t2).at (H2 := [ndB n id q (.ptr 1 u 0) (.pp 2 r.root) hi la, ndB u ui uq (.pp 3 ul.root) (.pp 4 ur.root) uh ua, trB r Sr, trB ul S2, trB ur S3]) [3, 0, 4, 1, 2] (by decide) ⟨LeB.cells rfl (fun h => h), LeB.cells rfl (fun h => h), LeB.refl _, LeB.refl _, LeB.refl _, trivial⟩
        exact ⟨_, [.ptr 0 n 0], _, t5, rfl, baL_lc n u id ui q uq hi la uh ua ul ur r Sr S2 S3 dl du dv dr h1 h2, fun r' H' w' hr' hw' => ⟨r', H', rfl, hr', To.refl hw'⟩⟩
  · by_cases h2 : r.ht > l.ht + 1
    · cases r with
      | leaf => have : PT.ht .leaf = 0 := rfl; omega
      | node u ui uq uh ua ul ur =>
        have du := sm_ht z0 hr.2.2.1
        have dv := sm_ht z0 hr.2.2.2
        by_cases h3 : ul.ht > ur.ht
        · cases ul with
          | leaf => have : PT.ht .leaf = 0 := rfl; omega
          | node v vi vq vh va vl vr =>
            refine LC.of_open bal_enters fun w hw => ?_
            have l1 : LeH [ndB n id q (.pp 1 l.root) (.pp 2 (PT.node u ui uq uh ua (.node v vi vq vh va vl vr) ur).root) hi la, trB l Sl, trB (.node u ui uq uh ua (.node v vi vq vh va vl vr) ur) Sr] (trB (.node u ui uq uh ua (.node v vi vq vh va vl vr) ur) Sr :: [ndB n id q (.pp 1 l.root) (.pp 2 (PT.node u ui uq uh ua (.node v vi vq vh va vl vr) ur).root) hi la, trB l Sl]) := leAt [2, 0, 1] (by decide) ⟨LeB.refl _, LeB.refl _, LeB.refl _, trivial⟩
            have t1 := l1.to hw
            obtain ⟨S2, S3, t2⟩ := tree_open t1.hp
            have t3 := (t1.trans t2).at (H2 := (trB (.node v vi vq vh va vl vr) S2 :: [ndB u ui uq (.v (.pointer (PT.node v vi vq vh va vl vr).root)) (.v (.pointer ur.root)) uh ua, trB ur S3, ndB n id q (.pp 1 l.root) (.pp 2 (PT.node u ui uq uh ua (.node v vi vq vh va vl vr) ur).root) hi la, trB l Sl])) [1, 0, 2, 3, 4] (by decide) ⟨LeB.refl _, LeB.refl _, LeB.refl _, LeB.refl _, LeB.refl _, trivial⟩
            obtain ⟨S4, S5, t4⟩ := tree_open t3.hp
            have t5 := (t3.trans t4).at (H2 := [ndB n id q (.pp 2 l.root) (.ptr 1 u 0) hi la, ndB u ui uq (.ptr 4 v 0) (.pp 3 ur.root) uh ua, trB l Sl, trB ur S3, ndB v vi vq (.pp 5 vl.root) (.pp 6 vr.root) vh va, trB vl S4, trB vr S5]) [5, 3, 6, 4, 0, 1, 2] (by decide) ⟨LeB.cells rfl (fun h => h), LeB.cells rfl (fun h => h), LeB.refl _, LeB.refl _, LeB.cells rfl (fun h => h), LeB.refl _, LeB.refl _, trivial⟩
            exact ⟨_, [.ptr 0 n 0], _, t5, rfl, baR2_lc n u v id ui vi q uq vq hi la uh ua vh va l ur vl vr Sl S3 S4 S5 dr du dv (sm_ht z0 hr.2.2.1.2.2.1) (sm_ht z0 hr.2.2.1.2.2.2) dl h2 h3, fun r' H' w' hr' hw' => ⟨r', H', rfl, hr', To.refl hw'⟩⟩
        · refine LC.of_open bal_enters fun w hw => ?_
          have l1 : LeH [ndB n id q (.pp 1 l.root) (.pp 2 (PT.node u ui uq uh ua ul ur).root) hi la, trB l Sl, trB (.node u ui uq uh ua ul ur) Sr] (trB (.node u ui uq uh ua ul ur) Sr :: [ndB n id q (.pp 1 l.root) (.pp 2 (PT.node u ui uq uh ua ul ur).root) hi la, trB l Sl]) := leAt [2, 0, 1] (by decide) ⟨LeB.refl _, LeB.refl _, LeB.refl _, trivial⟩
          have t1 := l1.to hw
          obtain ⟨S2, S3, t2⟩ := tree_open t1.hp
          have t5 := (t1.trans t2).at (H2 := [ndB n id q (.pp 2 l.root) (.ptr 1 u 0) hi la, ndB u ui uq (.pp 3 ul.root) (.pp 4 ur.root) uh ua, trB l Sl, trB ul S2, trB ur S3]) [3, 0, 4, 1, 2] (by decide) ⟨LeB.cells rfl (fun h => h), LeB.cells rfl (fun h => h), LeB.refl _, LeB.refl _, LeB.refl _, trivial⟩
          exact ⟨_, [.ptr 0 n 0], _, t5, rfl, baR_lc n u id ui q uq hi la uh ua l ul ur Sl S2 S3 dr du dv dl h2 h3, fun r' H' w' hr' hw' => ⟨r', H', rfl, hr', To.refl hw'⟩⟩
    · exact ba0_lc n id q hi la l r Sl Sr dl dr h1 h2

theorem bal_ok : HOk Try.prog 61 balH := HOk.of_take bal_enters fun rs args H K hk => by
  unfold balH at hk
  split at hk
  · rename_i i n
    split at hk
    · rename_i m id qt ql qb qr j pl k pr hi la h1
      obtain ⟨rfl, hjk, l, r, Sl, Sr, h2, h3, rfl, rfl, hl, hr, hk⟩ := hk
      have hij : i ≠ j := fun e => by rw [e, h2] at h1; cases h1
      have hik : i ≠ k := fun e => by rw [e, h3] at h1; cases h1
      refine ⟨[i, j, k], [ndB n id ⟨qt, ql, qb, qr⟩ (.pp 1 l.root) (.pp 2 r.root) hi la, trB l Sl, trB r Sr], [.ptr 0 n 0], _, by simp [hij, hik, hjk], ?_, rfl, bal_lc n id ⟨qt, ql, qb, qr⟩ hi la l r Sl Sr hl.h hr.h, fun z H' hz => ?_⟩
      · simp only [pickH, h1, h2, h3]
        exact ⟨LeB.cells rfl (fun h => h), LeB.refl _, LeB.refl _, trivial⟩
      · obtain ⟨S, e1, e2⟩ := hz
        exact ⟨_, _, by rw [e1]; rfl, e2, hk _ rfl S⟩
    · exact hk.elim
  · exact hk.elim

end Go.Proofs.Ytjnehpljhnlbfaa

