/- Span: behind an insertion and its Back: the plain law; the condition. -/
import Derived.Test.YtjnehpljhnlbfaaR3
import Derived.Test.YtjnehpljhnlbfaaT25
namespace Go.Proofs.Ytjnehpljhnlbfaa
open Go Go.Eng Go.Sp Go.Op
set_option linter.unusedVariables false
set_option linter.unusedSimpArgs false

theorem lf_back {k a c f l : Int} (h : rightF k a c = true) (hi : insF k = true) (hf : 1 ≤ f) (hfl : f ≤ l) (hl : l ≤ mostF k) (hs : stepT k a c l ≠ 2) :
    1 ≤ lfA k a c f l ∧ lfA k a c f l ≤ lfB k a c f l ∧ lfB k a c f l ≤ mostF k ∧ lfA (backK k) a c (lfA k a c f l) (lfB k a c f l) = f ∧ lfB (backK k) a c (lfA k a c f l) (lfB k a c f l) = l := by
  have hb := rightF_b h
  have hbk : insF (backK k) = false := by
    have hk : k = 1 ∨ k = 2 ∨ k = 3 ∨ k = 4 := by omega
    rcases hk with rfl | rfl | rfl | rfl <;> revert hi <;> decide
  have e1 := w64 (x := f + c) (by omega)
  have e3 := w64 (x := l + c) (by omega)
  have e5 := w64 (x := a + c) (by omega)
  have e6 := w64 (x := a - 1) (by omega)
  have hs' : ¬ (l ≥ a ∧ l + c > mostF k) := by
    intro hc
    apply hs
    unfold stepT
    rw [if_neg (by omega), hi, if_pos rfl, e3, if_pos (by omega)]
  have t1 : stepT k a c f ≠ 2 := by
    unfold stepT
    rw [hi, if_pos rfl, e1]
    split
    · decide
    · rw [if_neg (by omega)]; decide
  have n1 : lfNone k a c f l = false := by
    unfold lfNone
    rw [hi, if_pos rfl, decide_eq_false t1]
  have A : lfA k a c f l = if f < a then f else f + c := by
    unfold lfA
    rw [n1, if_neg (by decide), hi, if_pos rfl]
    unfold stepN
    rw [hi, if_pos rfl, e1]
  have B : lfB k a c f l = if l < a then l else l + c := by
    unfold lfB
    rw [n1, if_neg (by decide), hi, if_pos rfl, if_neg hs]
    unfold stepN
    rw [hi, if_pos rfl, e3]
  have e7 := w64 (x := f + c - c) (by omega)
  have e8 := w64 (x := l + c - c) (by omega)
  have n2 : lfNone (backK k) a c (lfA k a c f l) (lfB k a c f l) = false := by
    unfold lfNone
    rw [hbk, if_neg (by decide), A, B, e5]
    by_cases c1 : f < a <;> by_cases c2 : l < a <;> simp [c1, c2] <;> omega
  have A2 : lfA (backK k) a c (lfA k a c f l) (lfB k a c f l) = dn a c (lfA k a c f l) a := by
    generalize lfA k a c f l = u at *
    generalize lfB k a c f l = v at *
    unfold lfA
    rw [n2, if_neg (by decide), hbk, if_neg (by decide)]
  have B2 : lfB (backK k) a c (lfA k a c f l) (lfB k a c f l) = dn a c (lfB k a c f l) (IntKind.i64.wrap (a - 1)) := by
    generalize lfA k a c f l = u at *
    generalize lfB k a c f l = v at *
    unfold lfB
    rw [n2, if_neg (by decide), hbk, if_neg (by decide)]
  rw [A2, B2, A, B]
  unfold dn
  rw [e5, e6]
  refine ⟨by split <;> omega, by split <;> split <;> omega, by split <;> omega, ?_, ?_⟩
  · by_cases c1 : f < a
    · simp [c1]
    · simp only [c1, if_false]
      rw [if_neg (by omega), if_neg (by omega), e7]
      omega
  · by_cases c1 : l < a
    · simp [c1]
    · simp only [c1, if_false]
      rw [if_neg (by omega), if_neg (by omega), e8]
      omega

/-- An insertion that clips nothing, and its Back. -/
theorem rc_back {k a c : Int} {q : RC} (h : rightF k a c = true) (hq : okQ q = true) (hi : insF k = true) (hc : clF k a c q.t q.l q.b q.r = false) :
    rcOkQ k a c q = true ∧ okQ (rcQ k a c q) = true ∧ rcOkQ (backK k) a c (rcQ k a c q) = true ∧ rcQ (backK k) a c (rcQ k a c q) = q := by
  have hg : goodR k a c q.t q.l q.b q.r = true := by
    unfold goodR
    rw [h]
    exact hq
  obtain ⟨p1, p2, p3⟩ := spAB_b (k := k) (show okR q.t q.l q.b q.r = true from hq)
  have hs : stepT k a c (spB k q.b q.r) ≠ 2 := by
    intro e
    unfold clF at hc
    rw [hg, hi, if_pos rfl, decide_eq_true e] at hc
    cases hc
  obtain ⟨l1, l2, l3, l4, l5⟩ := lf_back h hi p1 p2 p3 hs
  have hok : rcOkQ k a c q = true := by
    unfold rcOkQ rcOk rcA rcB
    rw [hg, decide_eq_false (by omega)]
    rfl
  have hb := rightF_b h
  obtain ⟨_, e, _, _, _⟩ := back_k (k := k) (by omega) (by omega)
  have hbr := back_right h
  have hq2 : okQ (rcQ k a c q) = true := by
    have := rc_okR hg
    show okR _ _ _ _ = true
    unfold rcOkQ at hok
    rw [hok] at this
    exact this
  have hg2 : goodR (backK k) a c (rcQ k a c q).t (rcQ k a c q).l (rcQ k a c q).b (rcQ k a c q).r = true := by
    unfold goodR
    rw [hbr]
    exact hq2
  have ea : spA (backK k) (rcQ k a c q).t (rcQ k a c q).l = lfA k a c (spA k q.t q.l) (spB k q.b q.r) := by
    unfold spA
    rw [e]
    show (if rowsF k = true then rcT k a c q.t q.l q.b q.r else rcL k a c q.t q.l q.b q.r) = _
    unfold rcT rcL rcA
    unfold rcOkQ at hok
    rw [hok]
    unfold ifB spA
    cases rowsF k <;> rfl
  have eb : spB (backK k) (rcQ k a c q).b (rcQ k a c q).r = lfB k a c (spA k q.t q.l) (spB k q.b q.r) := by
    unfold spB
    rw [e]
    show (if rowsF k = true then rcD k a c q.t q.l q.b q.r else rcR k a c q.t q.l q.b q.r) = _
    unfold rcD rcR rcB
    unfold rcOkQ at hok
    rw [hok]
    unfold ifB spB
    cases rowsF k <;> rfl
  have hok2 : rcOkQ (backK k) a c (rcQ k a c q) = true := by
    unfold rcOkQ rcOk rcA rcB
    rw [hg2, ea, eb, l4, decide_eq_false (by omega)]
    rfl
  refine ⟨hok, hq2, hok2, ?_⟩
  have hok' : rcOk k a c q.t q.l q.b q.r = true := hok
  have hok2' : rcOk (backK k) a c (rcQ k a c q).t (rcQ k a c q).l (rcQ k a c q).b (rcQ k a c q).r = true := hok2
  have x1 : rcA (backK k) a c (rcQ k a c q).t (rcQ k a c q).l (rcQ k a c q).b (rcQ k a c q).r = spA k q.t q.l := by unfold rcA; rw [ea, eb, l4]
  have x2 : rcB (backK k) a c (rcQ k a c q).t (rcQ k a c q).l (rcQ k a c q).b (rcQ k a c q).r = spB k q.b q.r := by unfold rcB; rw [ea, eb, l5]
  have t1 : rcT (backK k) a c (rcQ k a c q).t (rcQ k a c q).l (rcQ k a c q).b (rcQ k a c q).r = q.t := by
    unfold rcT
    rw [hok2', x1, e]
    show (if rowsF k = true then spA k q.t q.l else rcT k a c q.t q.l q.b q.r) = q.t
    unfold spA rcT
    rw [hok']
    unfold ifB
    cases rowsF k <;> rfl
  have t2 : rcL (backK k) a c (rcQ k a c q).t (rcQ k a c q).l (rcQ k a c q).b (rcQ k a c q).r = q.l := by
    unfold rcL
    rw [hok2', x1, e]
    show (if rowsF k = true then rcL k a c q.t q.l q.b q.r else spA k q.t q.l) = q.l
    unfold spA rcL
    rw [hok']
    unfold ifB
    cases rowsF k <;> rfl
  have t3 : rcD (backK k) a c (rcQ k a c q).t (rcQ k a c q).l (rcQ k a c q).b (rcQ k a c q).r = q.b := by
    unfold rcD
    rw [hok2', x2, e]
    show (if rowsF k = true then spB k q.b q.r else rcD k a c q.t q.l q.b q.r) = q.b
    unfold spB rcD
    rw [hok']
    unfold ifB
    cases rowsF k <;> rfl
  have t4 : rcR (backK k) a c (rcQ k a c q).t (rcQ k a c q).l (rcQ k a c q).b (rcQ k a c q).r = q.r := by
    unfold rcR
    rw [hok2', x2, e]
    show (if rowsF k = true then rcR k a c q.t q.l q.b q.r else spB k q.b q.r) = q.r
    unfold spB rcR
    rw [hok']
    unfold ifB
    cases rowsF k <;> rfl
  show RC.mk _ _ _ _ = q
  rw [t1, t2, t3, t4]

end Go.Proofs.Ytjnehpljhnlbfaa
namespace Go.Sp
open Go Go.Eng Go.Op Go.Proofs.Ytjnehpljhnlbfaa

theorem getL_cons (x : Int × RC) (L : List (Int × RC)) (id : Int) : getL (x :: L) id = if x.1 == id then some x.2 else getL L id := by
  unfold getL
  rw [List.find?_cons]
  cases x.1 == id <;> rfl

theorem getL_mov {k a c : Int} {L : List (Int × RC)} {id : Int} : ∀ ids : List Int, getL (movN k a c L ids) id = if id ∈ ids then (mov1 k a c L id).map (·.2) else none
  | [] => rfl
  | j :: ids => by
    have ih := getL_mov (k := k) (a := a) (c := c) (L := L) (id := id) ids
    unfold movN at ih ⊢
    rw [List.filterMap_cons]
    by_cases e : j = id
    · subst e
      rw [if_pos (List.mem_cons_self ..)]
      cases hm : mov1 k a c L j with
      | none =>
        simp only []
        rw [ih, hm]
        split <;> rfl
      | some x =>
        simp only []
        have := mov1_id hm
        rw [getL_cons, this]
        simp
    · have hne : (id ∈ j :: ids) ↔ id ∈ ids := by
        constructor
        · intro h
          rcases List.mem_cons.1 h with h | h
          · exact absurd h.symm e
          · exact h
        · exact List.mem_cons_of_mem _
      cases hm : mov1 k a c L j with
      | none =>
        simp only []
        rw [ih]
        simp only [hne]
      | some x =>
        simp only []
        have h1 := mov1_id hm
        rw [getL_cons, h1]
        have : (j == id) = false := by simpa using e
        rw [this]
        simp only [Bool.false_eq_true, if_false, hne]
        exact ih

theorem getL_ids {L : List (Int × RC)} {id : Int} (h : id ∉ idsL L) : getL L id = none := by
  cases hg : getL L id with
  | none => rfl
  | some q => exact absurd ((sortI_perm _).mem_iff.2 (List.mem_map.2 ⟨_, getL_mem hg, rfl⟩)) h

/-- What an edit makes of any number's rectangle. -/
theorem getL_moved (k a c : Int) (L : List (Int × RC)) (id : Int) : getL (movN k a c L (idsL L)) id = (getL L id).bind fun q => if rcOkQ k a c q then some (rcQ k a c q) else none := by
  rw [getL_mov]
  split
  · unfold mov1
    cases getL L id with
    | none => rfl
    | some q =>
      simp only [Option.bind_some]
      split <;> rfl
  · rename_i h
    rw [getL_ids h]
    rfl

theorem gonN_nil {k a c : Int} {L : List (Int × RC)} {ids : List Int} (h : ∀ id q, getL L id = some q → rcOkQ k a c q = true) : gonN k a c L ids = [] := by
  unfold gonN
  rw [List.filter_eq_nil_iff]
  intro id _
  unfold gonB
  cases hg : getL L id with
  | none => simp
  | some q => simp [h id q hg]

end Go.Sp
namespace Go.Eng
open Go Go.Sp Go.Op Go.Proofs.Ytjnehpljhnlbfaa

structure bkO (k a c : Int) (len : Nat) : Prop where
  kind : k = 1 ∨ k = 3
  right : rightF k a c = true
  few : len ≤ 200

def backJ (k a c : Int) (rs : Nat → RC) (len : Nat) : Nat → TT → HH → LI := fun b T H =>
  bif Nat.beq b 0 then .inv Nat (fun x => ((6, .v (.int .i64 (x : Int))) :: keepT [0, 3, 4, 5] T, H)) (fun x => x ≤ len ∧ ∀ j, j < x → clF k a c (rs j).t (rs j).l (rs j).b (rs j).r = false) (fun x => len - x)
  else bif Nat.beq b 2 then .inv Nat (fun x => ((15, .v (.int .i64 (x : Int))) :: keepT [0, 4, 5] T, H)) (fun x => x ≤ len) (fun x => len - x)
  else bif Nat.beq b 1000002 then .sem [⟨Bool, fun x => ((41, .v (.bool x)) :: keepT [0, 3, 4, 5] T, H), fun x => x = false → bkO k a c len, fun _ => 0⟩]
  else .unroll 0

end Go.Eng
namespace Go.Proofs.Ytjnehpljhnlbfaa
open Go Go.Eng Go.Sp Go.Op
set_option linter.unusedVariables false
set_option linter.unusedSimpArgs false

def tbBk : Tbl := (11, .pure livesH) :: (10, .gen ofsH) :: (18, .pure checkH) :: (19, .pure clipsH) :: (20, .pure mbackH) :: (21, .gen moveH) :: (22, .gen getH) :: (23, .pure pcheckH) :: []

theorem tbBk_ok : TblOk Try.prog tbBk := ⟨lives_ok, ofsH_ok, check_ok, clips_ok, mback_ok, moveS_ok, get_ok, pcheck_ok, trivial⟩


set_option maxRecDepth 100000 in
theorem bck_vc (a_ : Option Addr) (n o len cap : Nat) (g0 g1 g2 g3 : Nat → Int) (S : List Nat) (k a c : Int) {R : AV → Prop} (h : (∀ (n1 : Nat), ∃ (g0_1 : Nat → Int), ∃ (g1_1 : Nat → Int), ∃ (g2_1 : Nat → Int), ∃ (g3_1 : Nat → Int), ∃ (S_1 : List Nat), ∃ (own : Bool), some (Blk.mk n (Cont.lst o len [Col.ints IntKind.i64 g0, Col.ints IntKind.i64 g1, Col.ints IntKind.i64 g2, Col.ints IntKind.i64 g3] S none) false) = some (Blk.mk n (Cont.lst o len [Col.ints IntKind.i64 g0_1, Col.ints IntKind.i64 g1_1, Col.ints IntKind.i64 g2_1, Col.ints IntKind.i64 g3_1] S_1 none) own) ∧ len ≤ 9223372036854775807 ∧ ∀ (s : SS), ofO s (rcs g0_1 g1_1 g2_1 g3_1) len → ∀ (S' : List Nat), br (decide ((↑len : Int) > (200 : Int))) (∀ (w : World), HoldsH [Blk.mk n (Cont.lst o len [Col.ints IntKind.i64 g0, Col.ints IntKind.i64 g1, Col.ints IntKind.i64 g2, Col.ints IntKind.i64 g3] S none) false, Blk.mk n1 (Cont.cells [i6 k, i6 a, i6 c] 44) true, Blk.mk s.n (Cont.res (SS × List Nat) (s, S') (fun (x : SS × List Nat) => x.snd) (packI setC)) true] w → ∃ (x : Bool), (x = false → bkO k a c len) ∧ ((bT).den = (AV.v (Value.bool x)).den ∧ (AV.os 0 a_ n o 0 4 len cap).den = (AV.os 0 a_ n o 0 4 len cap).den ∧ (AV.ptr 1 n1 0).den = (AV.ptr 1 n1 0).den ∧ (bF).den = (bF).den ∧ (AV.ptr 2 s.n 0).den = (AV.ptr 2 s.n 0).den ∧ True) ∧ To [Blk.mk n (Cont.lst o len [Col.ints IntKind.i64 g0, Col.ints IntKind.i64 g1, Col.ints IntKind.i64 g2, Col.ints IntKind.i64 g3] S none) false, Blk.mk n1 (Cont.cells [i6 k, i6 a, i6 c] 44) true, Blk.mk s.n (Cont.res (SS × List Nat) (s, S') (fun (x : SS × List Nat) => x.snd) (packI setC)) true] [Blk.mk n (Cont.lst o len [Col.ints
 IntKind.i64 g0, Col.ints IntKind.i64 g1, Col.ints IntKind.i64 g2, Col.ints IntKind.i64 g3] S none) false, Blk.mk n1 (Cont.cells [i6 k, i6 a, i6 c] 44) true, Blk.mk s.n (Cont.res (SS × List Nat) (s, S') (fun (x : SS × List Nat) => x.snd) (packI setC)) true] w) (n1 = n1 ∧ br (k != (1 : Int)) (n1 = n1 ∧ br (k != (3 : Int)) (∀ (w : World), HoldsH [Blk.mk n (Cont.lst o len [Col.ints IntKind.i64 g0, Col.ints IntKind.i64 g1, Col.ints IntKind.i64 g2, Col.ints IntKind.i64 g3] S none) false, Blk.mk n1 (Cont.cells [i6 k, i6 a, i6 c] 44) true, Blk.mk s.n (Cont.res (SS × List Nat) (s, S') (fun (x : SS × List Nat) => x.snd) (packI setC)) true] w → ∃ (x : Bool), (x = false → bkO k a c len) ∧ ((bT).den = (AV.v (Value.bool x)).den ∧ (AV.os 0 a_ n o 0 4 len cap).den = (AV.os 0 a_ n o 0 4 len cap).den ∧ (AV.ptr 1 n1 0).den = (AV.ptr 1 n1 0).den ∧ (bF).den = (bF).den ∧ (AV.ptr 2 s.n 0).den = (AV.ptr 2 s.n 0).den ∧ True) ∧ To [Blk.mk n (Cont.lst o len [Col.ints IntKind.i64 g0, Col.ints IntKind.i64 g1, Col.ints IntKind.i64 g2, Col.ints IntKind.i64 g3] S none) false, Blk.mk n1 (Cont.cells [i6 k, i6 a, i6 c] 44) true, Blk.mk s.n (Cont.res (SS × List Nat) (s, S') (fun (x : SS × List Nat) => x.snd) (packI setC)) true] [Blk.mk n (Cont.lst o len [Col.ints IntKind.i64 g0, Col.ints IntKind.i64 g1, Col.ints IntKind.i64 g2, Col.ints IntKind.i64 g3] S none) false, Blk.mk n1 (Cont.cells [i6 k, i6 a, i6 c] 44) true, Blk.mk s.n (Cont.res (SS × List Nat) (s, S') (fun (x : SS × List Nat) => x.snd) (packI setC)) true]
 w) (n1 = n1 ∧ ∀ (w : World), HoldsH [Blk.mk n (Cont.lst o len [Col.ints IntKind.i64 g0, Col.ints IntKind.i64 g1, Col.ints IntKind.i64 g2, Col.ints IntKind.i64 g3] S none) false, Blk.mk n1 (Cont.cells [i6 k, i6 a, i6 c] 44) true, Blk.mk s.n (Cont.res (SS × List Nat) (s, S') (fun (x : SS × List Nat) => x.snd) (packI setC)) true] w → ∃ (x : Bool), (x = false → bkO k a c len) ∧ ((AV.v (Value.bool (ifB (rightF k a c) (0 : Int) (2 : Int) != (0 : Int)))).den = (AV.v (Value.bool x)).den ∧ (AV.os 0 a_ n o 0 4 len cap).den = (AV.os 0 a_ n o 0 4 len cap).den ∧ (AV.ptr 1 n1 0).den = (AV.ptr 1 n1 0).den ∧ (bF).den = (bF).den ∧ (AV.ptr 2 s.n 0).den = (AV.ptr 2 s.n 0).den ∧ True) ∧ To [Blk.mk n (Cont.lst o len [Col.ints IntKind.i64 g0, Col.ints IntKind.i64 g1, Col.ints IntKind.i64 g2, Col.ints IntKind.i64 g3] S none) false, Blk.mk n1 (Cont.cells [i6 k, i6 a, i6 c] 44) true, Blk.mk s.n (Cont.res (SS × List Nat) (s, S') (fun (x : SS × List Nat) => x.snd) (packI setC)) true] [Blk.mk n (Cont.lst o len [Col.ints IntKind.i64 g0, Col.ints IntKind.i64 g1, Col.ints IntKind.i64 g2, Col.ints IntKind.i64 g3] S none) false, Blk.mk n1 (Cont.cells [i6 k, i6 a, i6 c] 44) true, Blk.mk s.n (Cont.res (SS × List Nat) (s, S') (fun (x : SS × List Nat) => x.snd) (packI setC)) true] w)) (n1 = n1 ∧ ∀ (w : World), HoldsH [Blk.mk n (Cont.lst o len [Col.ints IntKind.i64 g0, Col.ints IntKind.i64 g1, Col.ints IntKind.i64 g2, Col.ints IntKind.i64 g3] S none) false, Blk.mk n1 (Cont.cells [i6 k, i6 a, i6 c] 44) true, Blk.mk
 s.n (Cont.res (SS × List Nat) (s, S') (fun (x : SS × List Nat) => x.snd) (packI setC)) true] w → ∃ (x : Bool), (x = false → bkO k a c len) ∧ ((AV.v (Value.bool (ifB (rightF k a c) (0 : Int) (2 : Int) != (0 : Int)))).den = (AV.v (Value.bool x)).den ∧ (AV.os 0 a_ n o 0 4 len cap).den = (AV.os 0 a_ n o 0 4 len cap).den ∧ (AV.ptr 1 n1 0).den = (AV.ptr 1 n1 0).den ∧ (bF).den = (bF).den ∧ (AV.ptr 2 s.n 0).den = (AV.ptr 2 s.n 0).den ∧ True) ∧ To [Blk.mk n (Cont.lst o len [Col.ints IntKind.i64 g0, Col.ints IntKind.i64 g1, Col.ints IntKind.i64 g2, Col.ints IntKind.i64 g3] S none) false, Blk.mk n1 (Cont.cells [i6 k, i6 a, i6 c] 44) true, Blk.mk s.n (Cont.res (SS × List Nat) (s, S') (fun (x : SS × List Nat) => x.snd) (packI setC)) true] [Blk.mk n (Cont.lst o len [Col.ints IntKind.i64 g0, Col.ints IntKind.i64 g1, Col.ints IntKind.i64 g2, Col.ints IntKind.i64 g3] S none) false, Blk.mk n1 (Cont.cells [i6 k, i6 a, i6 c] 44) true, Blk.mk s.n (Cont.res (SS × List Nat) (s, S') (fun (x : SS × List Nat) => x.snd) (packI setC)) true] w)) ∧ ∀ (x : Bool), (x = false → bkO k a c len) → br x (R (bT)) ((∃ (x : Nat), (x ≤ len ∧ ∀ (j : Nat), j < x → clF k a c (rcs g0 g1 g2 g3 j).t (rcs g0 g1 g2 g3 j).l (rcs g0 g1 g2 g3 j).b (rcs g0 g1 g2 g3 j).r = false) ∧ ((i6 (0 : Int)).den = (i6 (↑x : Int)).den ∧ (AV.os 0 a_ n o 0 4 len cap).den = (AV.os 0 a_ n o 0 4 len cap).den ∧ (AV.ptr 1 n1 0).den = (AV.ptr 1 n1 0).den ∧ (bF).den = (bF).den ∧ (AV.ptr 2 s.n 0).den = (AV.ptr 2 s.n 0).den ∧ True) ∧ LeH [Blk.mk n (Cont.lst
 o len [Col.ints IntKind.i64 g0, Col.ints IntKind.i64 g1, Col.ints IntKind.i64 g2, Col.ints IntKind.i64 g3] S none) false, Blk.mk n1 (Cont.cells [i6 k, i6 a, i6 c] 44) true, Blk.mk s.n (Cont.res (SS × List Nat) (s, S') (fun (x : SS × List Nat) => x.snd) (packI setC)) true] [Blk.mk n (Cont.lst o len [Col.ints IntKind.i64 g0, Col.ints IntKind.i64 g1, Col.ints IntKind.i64 g2, Col.ints IntKind.i64 g3] S none) false, Blk.mk n1 (Cont.cells [i6 k, i6 a, i6 c] 44) true, Blk.mk s.n (Cont.res (SS × List Nat) (s, S') (fun (x : SS × List Nat) => x.snd) (packI setC)) true]) ∧ ∀ (n13 : Nat), (n13 ≤ len ∧ ∀ (j : Nat), j < n13 → clF k a c (rcs g0 g1 g2 g3 j).t (rcs g0 g1 g2 g3 j).l (rcs g0 g1 g2 g3 j).b (rcs g0 g1 g2 g3 j).r = false) → br (decide ((↑n13 : Int) < (↑len : Int))) (n1 = n1 ∧ ((0 : Int) ≤ (↑n13 : Int) ∧ (↑n13 : Int) < (↑len : Int)) ∧ n = n ∧ o = o ∧ 0 + (↑n13 : Int).toNat < len ∧ br (clF k a c (g0 (0 + (↑n13 : Int).toNat)) (g1 (0 + (↑n13 : Int).toNat)) (g2 (0 + (↑n13 : Int).toNat)) (g3 (0 + (↑n13 : Int).toNat))) (br (ifB (goodR k a c (g0 (0 + (↑n13 : Int).toNat)) (g1 (0 + (↑n13 : Int).toNat)) (g2 (0 + (↑n13 : Int).toNat)) (g3 (0 + (↑n13 : Int).toNat))) (0 : Int) (2 : Int) == (0 : Int)) (R (bT)) (∃ (x' : Nat), (x' ≤ len ∧ ∀ (j : Nat), j < x' → clF k a c (rcs g0 g1 g2 g3 j).t (rcs g0 g1 g2 g3 j).l (rcs g0 g1 g2 g3 j).b (rcs g0 g1 g2 g3 j).r = false) ∧ len - x' < len - n13 ∧ ((i6 (IntKind.i64.wrap ((↑n13 : Int) + (1 : Int)))).den = (i6 (↑x' : Int)).den ∧ (AV.os 0 a_ n o 0 4 len cap).den
 = (AV.os 0 a_ n o 0 4 len cap).den ∧ (AV.ptr 1 n1 0).den = (AV.ptr 1 n1 0).den ∧ (bF).den = (bF).den ∧ (AV.ptr 2 s.n 0).den = (AV.ptr 2 s.n 0).den ∧ True) ∧ LeH [Blk.mk n (Cont.lst o len [Col.ints IntKind.i64 g0, Col.ints IntKind.i64 g1, Col.ints IntKind.i64 g2, Col.ints IntKind.i64 g3] S none) false, Blk.mk n1 (Cont.cells [i6 k, i6 a, i6 c] 44) true, Blk.mk s.n (Cont.res (SS × List Nat) (s, S') (fun (x : SS × List Nat) => x.snd) (packI setC)) true] [Blk.mk n (Cont.lst o len [Col.ints IntKind.i64 g0, Col.ints IntKind.i64 g1, Col.ints IntKind.i64 g2, Col.ints IntKind.i64 g3] S none) false, Blk.mk n1 (Cont.cells [i6 k, i6 a, i6 c] 44) true, Blk.mk s.n (Cont.res (SS × List Nat) (s, S') (fun (x : SS × List Nat) => x.snd) (packI setC)) true])) (∃ (x' : Nat), (x' ≤ len ∧ ∀ (j : Nat), j < x' → clF k a c (rcs g0 g1 g2 g3 j).t (rcs g0 g1 g2 g3 j).l (rcs g0 g1 g2 g3 j).b (rcs g0 g1 g2 g3 j).r = false) ∧ len - x' < len - n13 ∧ ((i6 (IntKind.i64.wrap ((↑n13 : Int) + (1 : Int)))).den = (i6 (↑x' : Int)).den ∧ (AV.os 0 a_ n o 0 4 len cap).den = (AV.os 0 a_ n o 0 4 len cap).den ∧ (AV.ptr 1 n1 0).den = (AV.ptr 1 n1 0).den ∧ (bF).den = (bF).den ∧ (AV.ptr 2 s.n 0).den = (AV.ptr 2 s.n 0).den ∧ True) ∧ LeH [Blk.mk n (Cont.lst o len [Col.ints IntKind.i64 g0, Col.ints IntKind.i64 g1, Col.ints IntKind.i64 g2, Col.ints IntKind.i64 g3] S none) false, Blk.mk n1 (Cont.cells [i6 k, i6 a, i6 c] 44) true, Blk.mk s.n (Cont.res (SS × List Nat) (s, S') (fun (x : SS × List Nat) => x.snd) (packI setC)) true] [Blk.mk
 n (Cont.lst o len [Col.ints IntKind.i64 g0, Col.ints IntKind.i64 g1, Col.ints IntKind.i64 g2, Col.ints IntKind.i64 g3] S none) false, Blk.mk n1 (Cont.cells [i6 k, i6 a, i6 c] 44) true, Blk.mk s.n (Cont.res (SS × List Nat) (s, S') (fun (x : SS × List Nat) => x.snd) (packI setC)) true])) (n1 = n1 ∧ ∀ (n15 : Nat), n15 = n15 ∧ n1 = n1 ∧ ∃ (s_1 : SS), ∃ (S_2 : List Nat), some (Blk.mk s.n (Cont.res (SS × List Nat) (s, S') (fun (x : SS × List Nat) => x.snd) (packI setC)) true) = some (Blk.mk s_1.n (Cont.res (SS × List Nat) (s_1, S_2) (fun (x : SS × List Nat) => x.snd) (packI setC)) true) ∧ s.n = s_1.n ∧ ∀ (s' : SS) (g : List Int) (code : Int) (b : Option Addr) (n22 n23 : Nat) (Sg : List Nat), moveO s_1 s' k a c g code → ∀ (S' : List Nat), n15 = n15 ∧ ∃ (s_2 : SS), ∃ (S_3 : List Nat), some (Blk.mk s.n (Cont.res (SS × List Nat) (s', S') (fun (x : SS × List Nat) => x.snd) (packI setC)) true) = some (Blk.mk s_2.n (Cont.res (SS × List Nat) (s_2, S_3) (fun (x : SS × List Nat) => x.snd) (packI setC)) true) ∧ s.n = s_2.n ∧ ∀ (s' : SS) (g_1 : List Int) (code_1 : Int) (b : Option Addr) (n33 n34 : Nat) (Sg_1 : List Nat), moveO s_2 s' (ifB (rightF k a c) (backK k) (0 : Int)) (ifB (rightF k a c) a (0 : Int)) (ifB (rightF k a c) c (0 : Int)) g_1 code_1 → ∀ (S' : List Nat), br (code != (0 : Int)) (R (bF)) (br (code_1 != (0 : Int)) (R (bF)) (br ((↑g.length : Int) != (0 : Int)) (R (bF)) (br ((↑g_1.length : Int) != (0 : Int)) (R (bF)) ((∃ (x : Nat), x ≤ len ∧ ((i6 (0 : Int)).den = (i6 (↑x : Int)).den
 ∧ (AV.os 0 a_ n o 0 4 len cap).den = (AV.os 0 a_ n o 0 4 len cap).den ∧ (bF).den = (bF).den ∧ (AV.ptr 2 s.n 0).den = (AV.ptr 2 s.n 0).den ∧ True) ∧ LeH [Blk.mk n (Cont.lst o len [Col.ints IntKind.i64 g0, Col.ints IntKind.i64 g1, Col.ints IntKind.i64 g2, Col.ints IntKind.i64 g3] S none) false, Blk.mk n1 (Cont.cells [i6 k, i6 a, i6 c] 44) true, Blk.mk s.n (Cont.res (SS × List Nat) (s', S') (fun (x : SS × List Nat) => x.snd) (packI setC)) true, Blk.mk n15 (Cont.cells [i6 (ifB (rightF k a c) (backK k) (0 : Int)), i6 (ifB (rightF k a c) a (0 : Int)), i6 (ifB (rightF k a c) c (0 : Int))] 44) true, Blk.mk n22 (Cont.lst 0 g.length [Col.ints IntKind.i64 (atI g)] Sg none) true, Blk.mk n33 (Cont.lst 0 g_1.length [Col.ints IntKind.i64 (atI g_1)] Sg_1 none) true] [Blk.mk n (Cont.lst o len [Col.ints IntKind.i64 g0, Col.ints IntKind.i64 g1, Col.ints IntKind.i64 g2, Col.ints IntKind.i64 g3] S none) false, Blk.mk n1 (Cont.cells [i6 k, i6 a, i6 c] 44) true, Blk.mk s.n (Cont.res (SS × List Nat) (s', S') (fun (x : SS × List Nat) => x.snd) (packI setC)) true, Blk.mk n15 (Cont.cells [i6 (ifB (rightF k a c) (backK k) (0 : Int)), i6 (ifB (rightF k a c) a (0 : Int)), i6 (ifB (rightF k a c) c (0 : Int))] 44) true, Blk.mk n22 (Cont.lst 0 g.length [Col.ints IntKind.i64 (atI g)] Sg none) true, Blk.mk n33 (Cont.lst 0 g_1.length [Col.ints IntKind.i64 (atI g_1)] Sg_1 none) true]) ∧ ∀ (n38 : Nat), n38 ≤ len → br (decide ((↑n38 : Int) < (↑len : Int))) (∃ (s_3 : SS), ∃ (S_4 : List Nat), some (Blk.mk s.n (Cont.res
 (SS × List Nat) (s', S') (fun (x : SS × List Nat) => x.snd) (packI setC)) true) = some (Blk.mk s_3.n (Cont.res (SS × List Nat) (s_3, S_4) (fun (x : SS × List Nat) => x.snd) (packI setC)) true) ∧ s.n = s_3.n ∧ (∀ (q : RC), getL s_3.L (↑n38 : Int) = some q → ∀ (n44 : Nat), n44 = n44 ∧ ((0 : Int) ≤ (↑n38 : Int) ∧ (↑n38 : Int) < (↑len : Int)) ∧ n = n ∧ o = o ∧ 0 + (↑n38 : Int).toNat < len ∧ br (!true == (ifB (okR (g0 (0 + (↑n38 : Int).toNat)) (g1 (0 + (↑n38 : Int).toNat)) (g2 (0 + (↑n38 : Int).toNat)) (g3 (0 + (↑n38 : Int).toNat))) (0 : Int) (2 : Int) == (0 : Int))) (R (bF)) (n44 = n44 ∧ ((0 : Int) ≤ (↑n38 : Int) ∧ (↑n38 : Int) < (↑len : Int)) ∧ n = n ∧ o = o ∧ 0 + (↑n38 : Int).toNat < len ∧ br (!(q.t == g0 (0 + (↑n38 : Int).toNat) && (q.l == g1 (0 + (↑n38 : Int).toNat) && (q.b == g2 (0 + (↑n38 : Int).toNat) && (q.r == g3 (0 + (↑n38 : Int).toNat) && true))))) (R (bF)) (∃ (x' : Nat), x' ≤ len ∧ len - x' < len - n38 ∧ ((i6 (IntKind.i64.wrap ((↑n38 : Int) + (1 : Int)))).den = (i6 (↑x' : Int)).den ∧ (AV.os 0 a_ n o 0 4 len cap).den = (AV.os 0 a_ n o 0 4 len cap).den ∧ (bF).den = (bF).den ∧ (AV.ptr 2 s.n 0).den = (AV.ptr 2 s.n 0).den ∧ True) ∧ LeH [Blk.mk n (Cont.lst o len [Col.ints IntKind.i64 g0, Col.ints IntKind.i64 g1, Col.ints IntKind.i64 g2, Col.ints IntKind.i64 g3] S none) false, Blk.mk n1 (Cont.cells [i6 k, i6 a, i6 c] 44) true, Blk.mk s.n (Cont.res (SS × List Nat) (s', S') (fun (x : SS × List Nat) => x.snd) (packI setC)) true, Blk.mk n15 (Cont.cells [i6 (ifB (rightF k a c) (backK
 k) (0 : Int)), i6 (ifB (rightF k a c) a (0 : Int)), i6 (ifB (rightF k a c) c (0 : Int))] 44) true, Blk.mk n22 (Cont.lst 0 g.length [Col.ints IntKind.i64 (atI g)] Sg none) true, Blk.mk n33 (Cont.lst 0 g_1.length [Col.ints IntKind.i64 (atI g_1)] Sg_1 none) true, Blk.mk n44 (Cont.cells [i6 q.t, i6 q.l, i6 q.b, i6 q.r] 31) true] [Blk.mk n (Cont.lst o len [Col.ints IntKind.i64 g0, Col.ints IntKind.i64 g1, Col.ints IntKind.i64 g2, Col.ints IntKind.i64 g3] S none) false, Blk.mk n1 (Cont.cells [i6 k, i6 a, i6 c] 44) true, Blk.mk s.n (Cont.res (SS × List Nat) (s', S') (fun (x : SS × List Nat) => x.snd) (packI setC)) true, Blk.mk n15 (Cont.cells [i6 (ifB (rightF k a c) (backK k) (0 : Int)), i6 (ifB (rightF k a c) a (0 : Int)), i6 (ifB (rightF k a c) c (0 : Int))] 44) true, Blk.mk n22 (Cont.lst 0 g.length [Col.ints IntKind.i64 (atI g)] Sg none) true, Blk.mk n33 (Cont.lst 0 g_1.length [Col.ints IntKind.i64 (atI g_1)] Sg_1 none) true]))) ∧ (getL s_3.L (↑n38 : Int) = none → ∀ (n43 : Nat), n43 = n43 ∧ ((0 : Int) ≤ (↑n38 : Int) ∧ (↑n38 : Int) < (↑len : Int)) ∧ n = n ∧ o = o ∧ 0 + (↑n38 : Int).toNat < len ∧ br (!false == (ifB (okR (g0 (0 + (↑n38 : Int).toNat)) (g1 (0 + (↑n38 : Int).toNat)) (g2 (0 + (↑n38 : Int).toNat)) (g3 (0 + (↑n38 : Int).toNat))) (0 : Int) (2 : Int) == (0 : Int))) (R (bF)) (∃ (x' : Nat), x' ≤ len ∧ len - x' < len - n38 ∧ ((i6 (IntKind.i64.wrap ((↑n38 : Int) + (1 : Int)))).den = (i6 (↑x' : Int)).den ∧ (AV.os 0 a_ n o 0 4 len cap).den = (AV.os 0 a_ n o 0 4 len cap).den ∧ (bF).den
 = (bF).den ∧ (AV.ptr 2 s.n 0).den = (AV.ptr 2 s.n 0).den ∧ True) ∧ LeH [Blk.mk n (Cont.lst o len [Col.ints IntKind.i64 g0, Col.ints IntKind.i64 g1, Col.ints IntKind.i64 g2, Col.ints IntKind.i64 g3] S none) false, Blk.mk n1 (Cont.cells [i6 k, i6 a, i6 c] 44) true, Blk.mk s.n (Cont.res (SS × List Nat) (s', S') (fun (x : SS × List Nat) => x.snd) (packI setC)) true, Blk.mk n15 (Cont.cells [i6 (ifB (rightF k a c) (backK k) (0 : Int)), i6 (ifB (rightF k a c) a (0 : Int)), i6 (ifB (rightF k a c) c (0 : Int))] 44) true, Blk.mk n22 (Cont.lst 0 g.length [Col.ints IntKind.i64 (atI g)] Sg none) true, Blk.mk n33 (Cont.lst 0 g_1.length [Col.ints IntKind.i64 (atI g_1)] Sg_1 none) true, Blk.mk n43 (Cont.cells [i6 (0 : Int), i6 (0 : Int), i6 (0 : Int), i6 (0 : Int)] 31) true] [Blk.mk n (Cont.lst o len [Col.ints IntKind.i64 g0, Col.ints IntKind.i64 g1, Col.ints IntKind.i64 g2, Col.ints IntKind.i64 g3] S none) false, Blk.mk n1 (Cont.cells [i6 k, i6 a, i6 c] 44) true, Blk.mk s.n (Cont.res (SS × List Nat) (s', S') (fun (x : SS × List Nat) => x.snd) (packI setC)) true, Blk.mk n15 (Cont.cells [i6 (ifB (rightF k a c) (backK k) (0 : Int)), i6 (ifB (rightF k a c) a (0 : Int)), i6 (ifB (rightF k a c) c (0 : Int))] 44) true, Blk.mk n22 (Cont.lst 0 g.length [Col.ints IntKind.i64 (atI g)] Sg none) true, Blk.mk n33 (Cont.lst 0 g_1.length [Col.ints IntKind.i64 (atI g_1)] Sg_1 none) true]))) (R (bT)))))))))) : LC Try.prog 5 [.os 0 a_ n o 0 4 len cap, .agg [.v (.int .i64 k), .v (.int .i64 a), .v (.int .i64 c)]] [rxB n o len g0 g1 g2 g3 S false] (fun z_ _ => R z_) :=
  lc_of_exec (tbl := tbBk) tab_ok tbBk_ok mixed (backJ k a c (rcs g0 g1 g2 g3) len) 2 _ Try.func5 rfl Try.ntmps5 (by decide) (by kernel_rfl) (Nat.le_of_ble_eq_true rfl) (@Eq.mpr (execN tab tbBk (backJ k a c (rcs g0 g1 g2 g3) len) 2 Try.f5.ntmps [] none 0 (body Try.f5) (argsT [.os 0 a_ n o 0 4 len cap, .agg [.v (.int .i64 k), .v (.int .i64 a), .v (.int .i64 c)]] 0) [rxB n o len g0 g1 g2 g3 S false] (post Try.f5 tab (retK (fun z_ _ => R z_)))) _ (by kernel_rfl) h)


end Go.Proofs.Ytjnehpljhnlbfaa

