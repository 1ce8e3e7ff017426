import Derived.Test.YtjnehpljhnlbfaaPA
namespace Go.Proofs.Ytjnehpljhnlbfaa
open Go Go.Eng
set_option linter.unusedVariables false
set_option linter.unusedSimpArgs false
def mt (t l b r t' l' b' r' : Int) : Bool := okR t l b r && okR t' l' b' r' && okR (max t t') (max l l') (min b b') (min r r')
theorem mt_and {t l b r t' l' b' r' : Int} (h : okR t l b r = true) (h' : okR t' l' b' r' = true) : okR (max t t') (max l l') (min b b') (min r r') = (decide (max t t' ≤ min b b') && decide (max l l' ≤ min r r')) := by
  have := okR_b h
  have := okR_b h'
  rw [Bool.eq_iff_iff, okR_iff]
  simp only [Bool.and_eq_true, decide_eq_true_eq]
  omega
set_option maxRecDepth 100000 in
theorem pmeet_vc (t l b r t' l' b' r' : Int) {R : AV → Prop} (h : (∀ (n1 n2 n3 : Nat), n1 = n1 ∧ br (ifB (okR t l b r) (0 : Int) (2 : Int) != (0 : Int)) (n3 = n3 ∧ n3 = n3 ∧ R (AV.tup [AV.agg [AV.v (Value.int IntKind.i64 (0 : Int)), AV.v (Value.int IntKind.i64 (0 : Int)), AV.v (Value.int IntKind.i64 (0 : Int)), AV.v (Value.int IntKind.i64 (0 : Int))], AV.v (Value.bool false)])) (n2 = n2 ∧ br (ifB (okR t' l' b' r') (0 : Int) (2 : Int) != (0 : Int)) (n3 = n3 ∧ n3 = n3 ∧ R (AV.tup [AV.agg [AV.v (Value.int IntKind.i64 (0 : Int)), AV.v (Value.int IntKind.i64 (0 : Int)), AV.v (Value.int IntKind.i64 (0 : Int)), AV.v (Value.int IntKind.i64 (0 : Int))], AV.v (Value.bool false)])) (n1 = n1 ∧ n2 = n2 ∧ n1 = n1 ∧ n2 = n2 ∧ n1 = n1 ∧ n2 = n2 ∧ n1 = n1 ∧ n2 = n2 ∧ ∀ (n4 : Nat), n4 = n4 ∧ n4 = n4 ∧ br (ifB (okR (if t' > t then t' else t) (if l' > l then l' else l) (if b' < b then b' else b) (if r' < r then r' else r)) (0 : Int) (2 : Int) != (0 : Int)) (n3 = n3 ∧ n3 = n3 ∧ R (AV.tup [AV.agg [AV.v (Value.int IntKind.i64 (0 : Int)), AV.v (Value.int IntKind.i64 (0 : Int)), AV.v (Value.int IntKind.i64 (0 : Int)), AV.v (Value.int IntKind.i64 (0 : Int))], AV.v (Value.bool false)])) (n4 = n4 ∧ n3 = n3 ∧ n3 = n3 ∧ R (AV.tup [AV.agg [AV.v (Value.int IntKind.i64 (if t' > t then t' else t)), AV.v (Value.int IntKind.i64 (if l' > l then l' else l)), AV.v (Value.int IntKind.i64 (if b' < b then b' else b)), AV.v (Value.int IntKind.i64 (if r' < r then r' else r))], AV.v (Value.bool true)])))))) : LC Try.prog 17 [.agg [.v (.int .i64 t), .v (.int .i64 l), .v (.int .i64 b), .v (.int .i64 r)], .agg [.v (.int .i64 t'), .v (.int .i64 l'), .v (.int .i64 b'), .v (.int .i64 r')]] [] (fun z_ _ => R z_) :=
  lc_of_exec (tbl := pt4) tab_ok pt4_ok mixed noinv 2 _ Try.func17 rfl Try.ntmps17 (by decide) (by kernel_rfl) (Nat.le_of_ble_eq_true rfl) (@Eq.mpr (execN tab pt4 noinv 2 Try.f17.ntmps [] none 0 (body Try.f17) (argsT [.agg [.v (.int .i64 t), .v (.int .i64 l), .v (.int .i64 b), .v (.int .i64 r)], .agg [.v (.int .i64 t'), .v (.int .i64 l'), .v (.int .i64 b'), .v (.int .i64 r')]] 0) [] (post Try.f17 tab (retK (fun z_ _ => R z_)))) _ (by kernel_rfl) h)
set_option maxRecDepth 100000 in
theorem pmeet_lc (t l b r t' l' b' r' : Int) : LC Try.prog 17 [.agg [.v (.int .i64 t), .v (.int .i64 l), .v (.int .i64 b), .v (.int .i64 r)], .agg [.v (.int .i64 t'), .v (.int .i64 l'), .v (.int .i64 b'), .v (.int .i64 r')]] [] (fun z_ _ => z_ = .tup [.agg [.v (.int .i64 (ifB (mt t l b r t' l' b' r') (max t t') 0)), .v (.int .i64 (ifB (mt t l b r t' l' b' r') (max l l') 0)), .v (.int .i64 (ifB (mt t l b r t' l' b' r') (min b b') 0)), .v (.int .i64 (ifB (mt t l b r t' l' b' r') (min r r') 0))], .v (.bool (mt t l b r t' l' b' r'))]) :=
  pmeet_vc t l b r t' l' b' r' (by
    intros
    have e1 : (if t' > t then t' else t) = max t t' := by omega
    have e2 : (if l' > l then l' else l) = max l l' := by omega
    have e3 : (if b' < b then b' else b) = min b b' := by omega
    have e4 : (if r' < r then r' else r) = min r r' := by omega
    simp only [e1, e2, e3, e4, mt]
    cases okR t l b r <;> cases okR t' l' b' r' <;> cases okR (max t t') (max l l') (min b b') (min r r') <;> simp [br_iff, ifB])
def pmeetH : List AV → Option AV
  | [.agg [.v (.int .i64 t), .v (.int .i64 l), .v (.int .i64 b), .v (.int .i64 r)], .agg [.v (.int .i64 t'), .v (.int .i64 l'), .v (.int .i64 b'), .v (.int .i64 r')]] => some (.tup [.agg [.v (.int .i64 (ifB (mt t l b r t' l' b' r') (max t t') 0)), .v (.int .i64 (ifB (mt t l b r t' l' b' r') (max l l') 0)), .v (.int .i64 (ifB (mt t l b r t' l' b' r') (min b b') 0)), .v (.int .i64 (ifB (mt t l b r t' l' b' r') (min r r') 0))], .v (.bool (mt t l b r t' l' b' r'))])
  | _ => none
theorem pmeet_ok : POk Try.prog 17 pmeetH := POk.of_lc (enters_of (c := body Try.f17) Try.func17 rfl (by kernel_rfl)) (by
  intro args v h
  unfold pmeetH at h
  split at h
  · cases h; exact pmeet_lc _ _ _ _ _ _ _ _
  · cases h)
set_option maxRecDepth 100000 in
theorem rMeet_vc (t l b r t' l' b' r' : Int) {R : AV → Prop} (h : (∀ (n1 n2 n3 : Nat), n1 = n1 ∧ br (!okR t l b r) (n3 = n3 ∧ n3 = n3 ∧ R (AV.tup [AV.agg [AV.v (Value.int IntKind.i64 (0 : Int)), AV.v (Value.int IntKind.i64 (0 : Int)), AV.v (Value.int IntKind.i64 (0 : Int)), AV.v (Value.int IntKind.i64 (0 : Int))], AV.v (Value.bool false)])) (n2 = n2 ∧ br (!okR t' l' b' r') (n3 = n3 ∧ n3 = n3 ∧ R (AV.tup [AV.agg [AV.v (Value.int IntKind.i64 (0 : Int)), AV.v (Value.int IntKind.i64 (0 : Int)), AV.v (Value.int IntKind.i64 (0 : Int)), AV.v (Value.int IntKind.i64 (0 : Int))], AV.v (Value.bool false)])) (n1 = n1 ∧ n2 = n2 ∧ n1 = n1 ∧ n2 = n2 ∧ n1 = n1 ∧ n2 = n2 ∧ n1 = n1 ∧ n2 = n2 ∧ ∀ (n4 : Nat), n4 = n4 ∧ n4 = n4 ∧ n4 = n4 ∧ br (decide ((if t' > t then t' else t) > if b' < b then b' else b)) (n3 = n3 ∧ n3 = n3 ∧ R (AV.tup [AV.agg [AV.v (Value.int IntKind.i64 (0 : Int)), AV.v (Value.int IntKind.i64 (0 : Int)), AV.v (Value.int IntKind.i64 (0 : Int)), AV.v (Value.int IntKind.i64 (0 : Int))], AV.v (Value.bool false)])) (n4 = n4 ∧ n4 = n4 ∧ br (decide ((if l' > l then l' else l) > if r' < r then r' else r)) (n3 = n3 ∧ n3 = n3 ∧ R (AV.tup [AV.agg [AV.v (Value.int IntKind.i64 (0 : Int)), AV.v (Value.int IntKind.i64 (0 : Int)), AV.v (Value.int IntKind.i64 (0 : Int)), AV.v (Value.int IntKind.i64 (0 : Int))], AV.v (Value.bool false)])) (n4 = n4 ∧ n3 = n3 ∧ n3 = n3 ∧ R (AV.tup [AV.agg [AV.v (Value.int IntKind.i64 (if t' > t then t' else t)), AV.v (Value.int IntKind.i64 (if l' > l then l' else l)), AV.v (Value.int IntKind.i64 (if b' < b then b' else b)), AV.v (Value.int IntKind.i64 (if r' < r then r' else r))], AV.v (Value.bool true)]))))))) : LC Try.prog 66 [.agg [.v (.int .i64 t), .v (.int .i64 l), .v (.int .i64 b), .v (.int .i64 r)], .agg [.v (.int .i64 t'), .v (.int .i64 l'), .v (.int .i64 b'), .v (.int .i64 r')]] [] (fun z_ _ => R z_) :=
  lc_of_exec (tbl := pt4) tab_ok pt4_ok mixed noinv 2 _ Try.func66 rfl Try.ntmps66 (by decide) (by kernel_rfl) (Nat.le_of_ble_eq_true rfl) (@Eq.mpr (execN tab pt4 noinv 2 Try.f66.ntmps [] none 0 (body Try.f66) (argsT [.agg [.v (.int .i64 t), .v (.int .i64 l), .v (.int .i64 b), .v (.int .i64 r)], .agg [.v (.int .i64 t'), .v (.int .i64 l'), .v (.int .i64 b'), .v (.int .i64 r')]] 0) [] (post Try.f66 tab (retK (fun z_ _ => R z_)))) _ (by kernel_rfl) h)
set_option maxRecDepth 100000 in
theorem rMeet_lc (t l b r t' l' b' r' : Int) : LC Try.prog 66 [.agg [.v (.int .i64 t), .v (.int .i64 l), .v (.int .i64 b), .v (.int .i64 r)], .agg [.v (.int .i64 t'), .v (.int .i64 l'), .v (.int .i64 b'), .v (.int .i64 r')]] [] (fun z_ _ => z_ = .tup [.agg [.v (.int .i64 (ifB (mt t l b r t' l' b' r') (max t t') 0)), .v (.int .i64 (ifB (mt t l b r t' l' b' r') (max l l') 0)), .v (.int .i64 (ifB (mt t l b r t' l' b' r') (min b b') 0)), .v (.int .i64 (ifB (mt t l b r t' l' b' r') (min r r') 0))], .v (.bool (mt t l b r t' l' b' r'))]) :=
  rMeet_vc t l b r t' l' b' r' (by
    intros
    have e1 : (if t' > t then t' else t) = max t t' := by omega
    have e2 : (if l' > l then l' else l) = max l l' := by omega
    have e3 : (if b' < b then b' else b) = min b b' := by omega
    have e4 : (if r' < r then r' else r) = min r r' := by omega
    simp only [e1, e2, e3, e4, mt]
    cases h1 : okR t l b r
    · simp [br_iff, ifB]
    · cases h2 : okR t' l' b' r'
      · simp [br_iff, ifB]
      · rw [mt_and h1 h2]
        by_cases c1 : max t t' ≤ min b b' <;> by_cases c2 : max l l' ≤ min r r' <;> simp [br_iff, ifB, c1, c2] <;> omega)
def rMeetH : List AV → Option AV
  | [.agg [.v (.int .i64 t), .v (.int .i64 l), .v (.int .i64 b), .v (.int .i64 r)], .agg [.v (.int .i64 t'), .v (.int .i64 l'), .v (.int .i64 b'), .v (.int .i64 r')]] => some (.tup [.agg [.v (.int .i64 (ifB (mt t l b r t' l' b' r') (max t t') 0)), .v (.int .i64 (ifB (mt t l b r t' l' b' r') (max l l') 0)), .v (.int .i64 (ifB (mt t l b r t' l' b' r') (min b b') 0)), .v (.int .i64 (ifB (mt t l b r t' l' b' r') (min r r') 0))], .v (.bool (mt t l b r t' l' b' r'))])
  | _ => none
theorem rMeet_ok : POk Try.prog 66 rMeetH := POk.of_lc (enters_of (c := body Try.f66) Try.func66 rfl (by kernel_rfl)) (by
  intro args v h
  unfold rMeetH at h
  split at h
  · cases h; exact rMeet_lc _ _ _ _ _ _ _ _
  · cases h)
set_option maxRecDepth 100000 in
theorem rIn_vc (t l b r y x : Int) {R : AV → Prop} (h : (∀ (n1 n2 : Nat), n1 = n1 ∧ br (okR t l b r) (n2 = n2 ∧ n1 = n1 ∧ br (decide (y ≥ t)) (n2 = n2 ∧ n1 = n1 ∧ br (decide (y ≤ b)) (n2 = n2 ∧ n1 = n1 ∧ br (decide (x ≥ l)) (n2 = n2 ∧ n1 = n1 ∧ R (AV.v (Value.bool (decide (x ≤ r))))) (R (AV.v (Value.bool false)))) (R (AV.v (Value.bool false)))) (R (AV.v (Value.bool false)))) (R (AV.v (Value.bool false))))) : LC Try.prog 67 [.agg [.v (.int .i64 t), .v (.int .i64 l), .v (.int .i64 b), .v (.int .i64 r)], .agg [.v (.int .i64 y), .v (.int .i64 x)]] [] (fun z_ _ => R z_) :=
  lc_of_exec (tbl := pt4) tab_ok pt4_ok mixed noinv 2 _ Try.func67 rfl Try.ntmps67 (by decide) (by kernel_rfl) (Nat.le_of_ble_eq_true rfl) (@Eq.mpr (execN tab pt4 noinv 2 Try.f67.ntmps [] none 0 (body Try.f67) (argsT [.agg [.v (.int .i64 t), .v (.int .i64 l), .v (.int .i64 b), .v (.int .i64 r)], .agg [.v (.int .i64 y), .v (.int .i64 x)]] 0) [] (post Try.f67 tab (retK (fun z_ _ => R z_)))) _ (by kernel_rfl) h)
set_option maxRecDepth 100000 in
theorem rIn_lc (t l b r y x : Int) : LC Try.prog 67 [.agg [.v (.int .i64 t), .v (.int .i64 l), .v (.int .i64 b), .v (.int .i64 r)], .agg [.v (.int .i64 y), .v (.int .i64 x)]] [] (fun z_ _ => z_ = .v (.bool (inF t l b r y x))) :=
  rIn_vc t l b r y x (by
    intros
    simp only [true_and, and_true, br_iff, AV.v.injEq, AV.tup.injEq, AV.agg.injEq, List.cons.injEq, Value.bool.injEq, Value.int.injEq, decide_eq_true_eq, decide_eq_false_iff_not, ifB, inF]
    repeat' (first | (refine ⟨?_, ?_⟩) | intro _)
    all_goals (first | trivial | omega | (simp_all; done) | (simp_all; omega) | (rw [Bool.eq_iff_iff]; simp (config := {failIfUnchanged := false}) only [decide_eq_true_eq, Bool.false_eq_true, false_iff, iff_false, true_iff, iff_true, Bool.and_eq_true, Bool.or_eq_true]; omega) | (simp_all; rw [Bool.eq_iff_iff]; simp <;> omega)))
def rInH : List AV → Option AV
  | [.agg [.v (.int .i64 t), .v (.int .i64 l), .v (.int .i64 b), .v (.int .i64 r)], .agg [.v (.int .i64 y), .v (.int .i64 x)]] => some (.v (.bool (inF t l b r y x)))
  | _ => none
theorem rIn_ok : POk Try.prog 67 rInH := POk.of_lc (enters_of (c := body Try.f67) Try.func67 rfl (by kernel_rfl)) (by
  intro args v h
  unfold rInH at h
  split at h
  · cases h; exact rIn_lc _ _ _ _ _ _
  · cases h)
end Go.Proofs.Ytjnehpljhnlbfaa
