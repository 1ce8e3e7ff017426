/- Span: a rectangle more in a tree: the contract. -/
import Derived.Test.YtjnehpljhnlbfaaT6
namespace Go.Eng
open Go Go.Sp Go.Proofs.Ytjnehpljhnlbfaa

theorem leaf_nil (w : World) : (trB .leaf []).c.holds w (trB .leaf []).num := pack_close (C := treeC) (x := .leaf) (H0 := []) rfl (fun b hb => (by cases hb)) (holds_nil w)

/-- A new knot alone. -/
theorem tree_new {n : Nat} {id : Int} {q : RC} {pl pr : AV} {hi la : Int} (hl : pl.den = .pointer none) (hr : pr.den = .pointer none) : LeH [ndB n id q pl pr hi la] [trB (.node n id q hi la .leaf .leaf) [n]] :=
  LeH.trans (LeH.trans (LeH.more (H := [ndB n id q pl pr hi la]) (b := trB .leaf []) rfl leaf_nil) (LeH.more (H := [ndB n id q pl pr hi la, trB .leaf []]) (b := trB .leaf []) rfl leaf_nil)) (tree_close (l := .leaf) (r := .leaf) (Sl := []) (Sr := []) (Hr := []) hl hr)

end Go.Eng
namespace Go.Proofs.Ytjnehpljhnlbfaa
open Go Go.Eng Go.Sp
set_option linter.unusedVariables false
set_option linter.unusedSimpArgs false

theorem with_enters : Enters Try.prog 42 := enters_of (c := body Try.f42) Try.func42 rfl (by kernel_rfl)

theorem with_step (m : Nat) (hm : TblOk Try.prog (tbWi m)) (id qt ql qb qr : Int) (hq : 0 ≤ qb) (hk : m + 1 ≤ 100000) (t : PT) (S : List Nat) (hw : t.wf) (hs : t.sz < m + 1) :
    LC Try.prog 42 [.pp 0 t.root, .v (.int .i64 id), .agg [.v (.int .i64 qt), .v (.int .i64 ql), .v (.int .i64 qb), .v (.int .i64 qr)]] [trB t S] (fun z H' => ∃ nn S', z.den = .pointer (t.ins nn id ⟨qt, ql, qb, qr⟩).root ∧ LeH H' [trB (t.ins nn id ⟨qt, ql, qb, qr⟩) S']) := by
  cases t with
  | leaf =>
    refine wi0_vc id qt ql qb qr S (by
      simp only [true_and, and_true]
      intro n1 n2
      refine ⟨n2, [n2], rfl, LeH.trans (leAt [2] (by decide) ?_) (tree_new (n := n2) (id := id) (q := ⟨qt, ql, qb, qr⟩) (pl := .v (.pointer none)) (pr := .v (.pointer none)) (hi := 1) (la := qb) rfl rfl)⟩
      exact ⟨LeB.cells rfl (fun h => h), trivial⟩)
  | node n kid kq hi la l r =>
    refine LC.of_open with_enters fun w hw0 => ?_
    obtain ⟨Sl, Sr, t2⟩ := tree_open (Hr := []) hw0
    have t3 := t2.at (H2 := [ndB n kid kq (.pp 1 l.root) (.pp 2 r.root) hi la, trB l Sl, trB r Sr]) [0, 1, 2] (by decide) ⟨LeB.cells rfl (fun h => h), LeB.refl _, LeB.refl _, trivial⟩
    have hs : l.sz + r.sz + 1 < m + 1 := hs
    have sl : l.sm 1000000 := wf_sm hw.2.2.1 (by omega)
    have sr : r.sm 1000000 := wf_sm hw.2.2.2 (by omega)
    refine ⟨_, [.ptr 0 n 0, .v (.int .i64 id), .agg [.v (.int .i64 qt), .v (.int .i64 ql), .v (.int .i64 qb), .v (.int .i64 qr)]], (fun z H' => ∃ nn S', z.den = .pointer ((PT.node n kid kq hi la l r).ins nn id ⟨qt, ql, qb, qr⟩).root ∧ LeH H' [trB ((PT.node n kid kq hi la l r).ins nn id ⟨qt, ql, qb, qr⟩) S']), t3, rfl, wi1_vc m hm n kid kq hi la l r Sl Sr id qt ql qb qr ?_, fun r' H' w' hr' hw' => ⟨r', H', rfl, hr', To.refl hw'⟩⟩
    simp only [true_and, and_true]
    intro n1
    refine br_intro (fun h => ?_) (fun h => ?_)
    · refine ⟨l, Sl, rfl, rfl, ⟨hw.2.2.1⟩, by omega, by omega, hq, fun T hT S1 => ⟨by decide, T, r, S1, Sr, rfl, rfl, rfl, rfl, ⟨?_⟩, ⟨sr⟩, fun T2 hT2 S2 => ?_⟩⟩
      · obtain ⟨nn, rfl⟩ := hT
        obtain ⟨g1, g2⟩ := ins_both nn id ⟨qt, ql, qb, qr⟩ hq hw.2.2.1
        exact wf_sm g1 (by omega)
      · obtain ⟨nn, rfl⟩ := hT
        have e : (PT.node n kid kq hi la l r).ins nn id ⟨qt, ql, qb, qr⟩ = T2 := by
          rw [hT2]
          exact if_pos (of_decide_eq_true h)
        refine ⟨nn, S2, by rw [e]; rfl, ?_⟩
        rw [e]
        exact leAt [5] (by decide) ⟨LeB.refl _, trivial⟩
    · refine ⟨r, Sr, rfl, rfl, ⟨hw.2.2.2⟩, by omega, by omega, hq, fun T hT S1 => ⟨by decide, l, T, Sl, S1, rfl, rfl, rfl, rfl, ⟨sl⟩, ⟨?_⟩, fun T2 hT2 S2 => ?_⟩⟩
      · obtain ⟨nn, rfl⟩ := hT
        obtain ⟨g1, g2⟩ := ins_both nn id ⟨qt, ql, qb, qr⟩ hq hw.2.2.2
        exact wf_sm g1 (by omega)
      · obtain ⟨nn, rfl⟩ := hT
        have e : (PT.node n kid kq hi la l r).ins nn id ⟨qt, ql, qb, qr⟩ = T2 := by
          rw [hT2]
          exact if_neg (of_decide_eq_false h)
        refine ⟨nn, S2, by rw [e]; rfl, ?_⟩
        rw [e]
        exact leAt [5] (by decide) ⟨LeB.refl _, trivial⟩

theorem with_ok : ∀ m : Nat, HOk Try.prog 42 (withH m)
  | 0 => HOk.of_take with_enters fun rs args H K hk => by
    unfold withH at hk
    split at hk
    · obtain ⟨t, S, _, _, _, h, _⟩ := hk
      exact absurd h (Nat.not_lt_zero _)
    · exact hk.elim
  | m + 1 => HOk.of_take with_enters fun rs args H K hk => by
    unfold withH at hk
    split at hk
    · rename_i i p id qt ql qb qr
      obtain ⟨t, S, h1, rfl, h2, h3, h4, h5, hk⟩ := hk
      refine ⟨[i], [trB t S], [.pp 0 t.root, .v (.int .i64 id), .agg [.v (.int .i64 qt), .v (.int .i64 ql), .v (.int .i64 qb), .v (.int .i64 qr)]], _, by simp, ?_, rfl, with_step m ⟨with_ok m, sid_ok, or_ok, bal_ok, trivial⟩ id qt ql qb qr h5 h4 t S h2.h h3, fun z H' hz => ?_⟩
      · simp only [pickH, h1]
        exact ⟨LeB.refl _, trivial⟩
      · obtain ⟨nn, S', e1, e2⟩ := hz
        exact ⟨_, _, by rw [e1]; rfl, e2, hk _ ⟨nn, rfl⟩ S'⟩
    · exact hk.elim

end Go.Proofs.Ytjnehpljhnlbfaa

