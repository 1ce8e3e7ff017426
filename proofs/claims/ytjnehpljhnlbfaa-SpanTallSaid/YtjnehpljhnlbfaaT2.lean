/- Span: what a knot knows: heights, last rows, order. -/
import Derived.Test.YtjnehpljhnlbfaaT1
namespace Go.Sp
open Go.Eng Go.Proofs.Ytjnehpljhnlbfaa

/-- How two rectangles stand. -/
def ordV (top id ktop kid : Int) : Int := if top < ktop then -1 else if ktop < top then 1 else if id < kid then -1 else if kid < id then 1 else 0

end Go.Sp
namespace Go.Eng
open Go Go.Sp Go.Proofs.Ytjnehpljhnlbfaa

def htH : Handler := fun _ args H K =>
  match args with
  | [.pp i p] => ∃ (t : PT) (S : List Nat) (own : Bool), nth H i = some ⟨0, packC treeC t S, own⟩ ∧ p = t.root ∧ K (.ret (.v (.int .i64 t.ht))) H
  | [.ptr i n 0] => (match nth H i with | some ⟨m, .cells [_, _, _, _, _, _, _, .v (.int .i64 hi), _] 81, _⟩ => n = m ∧ K (.ret (.v (.int .i64 hi))) H | _ => False)
  | _ => False
def btH : Handler := fun _ args H K =>
  match args with
  | [.pp i p] => ∃ (t : PT) (S : List Nat) (own : Bool), nth H i = some ⟨0, packC treeC t S, own⟩ ∧ p = t.root ∧ K (.ret (.v (.int .i64 t.bt))) H
  | [.ptr i n 0] => (match nth H i with | some ⟨m, .cells [_, _, _, _, _, _, _, _, .v (.int .i64 la)] 81, _⟩ => n = m ∧ K (.ret (.v (.int .i64 la))) H | _ => False)
  | _ => False
def orH : Handler := fun _ args H K =>
  match args with
  | [.v (.int .i64 id), .agg [.v (.int .i64 t), .v (.int .i64 _), .v (.int .i64 _), .v (.int .i64 _)], .ptr i n 0] => (match nth H i with | some ⟨m, .cells [.v (.int .i64 kid), .v (.int .i64 kt), _, _, _, _, _, _, _] 81, _⟩ => n = m ∧ K (.ret (.v (.int .i64 (ordV t id kt kid)))) H | _ => False)
  | _ => False

end Go.Eng
namespace Go.Proofs.Ytjnehpljhnlbfaa
open Go Go.Eng Go.Sp
set_option linter.unusedVariables false
set_option linter.unusedSimpArgs false


set_option maxRecDepth 100000 in
theorem ht0_vc  {R : AV → Prop} (h : (R (AV.v (Value.int IntKind.i64 (0 : Int))))) : LC Try.prog 50 [.v (.pointer none)] [] (fun z_ _ => R z_) :=
  lc_of_exec (tbl := []) tab_ok trivial mixed noinv 2 _ Try.func50 rfl Try.ntmps50 (by decide) (by kernel_rfl) (Nat.le_of_ble_eq_true rfl) (@Eq.mpr (execN tab [] noinv 2 Try.f50.ntmps [] none 0 (body Try.f50) (argsT [.v (.pointer none)] 0) [] (post Try.f50 tab (retK (fun z_ _ => R z_)))) _ (by kernel_rfl) h)



set_option maxRecDepth 100000 in
theorem ht1_vc (n : Nat) (c0 c1 c2 c3 c4 c5 c6 c8 : AV) (hi : Int) {R : AV → Prop} (h : (n = n ∧ R (AV.v (Value.int IntKind.i64 hi)))) : LC Try.prog 50 [.ptr 0 n 0] [⟨n, .cells [c0, c1, c2, c3, c4, c5, c6, .v (.int .i64 hi), c8] 81, false⟩] (fun z_ _ => R z_) :=
  lc_of_exec (tbl := []) tab_ok trivial mixed noinv 2 _ Try.func50 rfl Try.ntmps50 (by decide) (by kernel_rfl) (Nat.le_of_ble_eq_true rfl) (@Eq.mpr (execN tab [] noinv 2 Try.f50.ntmps [] none 0 (body Try.f50) (argsT [.ptr 0 n 0] 0) [⟨n, .cells [c0, c1, c2, c3, c4, c5, c6, .v (.int .i64 hi), c8] 81, false⟩] (post Try.f50 tab (retK (fun z_ _ => R z_)))) _ (by kernel_rfl) h)



set_option maxRecDepth 100000 in
theorem bt0_vc  {R : AV → Prop} (h : (R (AV.v (Value.int IntKind.i64 (0 : Int))))) : LC Try.prog 68 [.v (.pointer none)] [] (fun z_ _ => R z_) :=
  lc_of_exec (tbl := []) tab_ok trivial mixed noinv 2 _ Try.func68 rfl Try.ntmps68 (by decide) (by kernel_rfl) (Nat.le_of_ble_eq_true rfl) (@Eq.mpr (execN tab [] noinv 2 Try.f68.ntmps [] none 0 (body Try.f68) (argsT [.v (.pointer none)] 0) [] (post Try.f68 tab (retK (fun z_ _ => R z_)))) _ (by kernel_rfl) h)



set_option maxRecDepth 100000 in
theorem bt1_vc (n : Nat) (c0 c1 c2 c3 c4 c5 c6 c7 : AV) (la : Int) {R : AV → Prop} (h : (n = n ∧ R (AV.v (Value.int IntKind.i64 la)))) : LC Try.prog 68 [.ptr 0 n 0] [⟨n, .cells [c0, c1, c2, c3, c4, c5, c6, c7, .v (.int .i64 la)] 81, false⟩] (fun z_ _ => R z_) :=
  lc_of_exec (tbl := []) tab_ok trivial mixed noinv 2 _ Try.func68 rfl Try.ntmps68 (by decide) (by kernel_rfl) (Nat.le_of_ble_eq_true rfl) (@Eq.mpr (execN tab [] noinv 2 Try.f68.ntmps [] none 0 (body Try.f68) (argsT [.ptr 0 n 0] 0) [⟨n, .cells [c0, c1, c2, c3, c4, c5, c6, c7, .v (.int .i64 la)] 81, false⟩] (post Try.f68 tab (retK (fun z_ _ => R z_)))) _ (by kernel_rfl) h)



set_option maxRecDepth 100000 in
theorem cmpc_vc (a b : Int) {R : AV → Prop} (h : (br (a != a) (br (b != b) (R (AV.v (Value.int IntKind.i64 (0 : Int)))) (R (AV.v (Value.int IntKind.i64 (-1 : Int))))) (br (b != b) (R (AV.v (Value.int IntKind.i64 (1 : Int)))) (br (decide (a < b)) (R (AV.v (Value.int IntKind.i64 (-1 : Int)))) (br (decide (a > b)) (R (AV.v (Value.int IntKind.i64 (1 : Int)))) (R (AV.v (Value.int IntKind.i64 (0 : Int))))))))) : LC Try.prog 83 [.v (.int .i64 a), .v (.int .i64 b)] [] (fun z_ _ => R z_) :=
  lc_of_exec (tbl := st21) tab_ok st21_ok mixed noinv 2 _ Try.func83 rfl Try.ntmps83 (by decide) (by kernel_rfl) (Nat.le_of_ble_eq_true rfl) (@Eq.mpr (execN tab st21 noinv 2 Try.f83.ntmps [] none 0 (body Try.f83) (argsT [.v (.int .i64 a), .v (.int .i64 b)] 0) [] (post Try.f83 tab (retK (fun z_ _ => R z_)))) _ (by kernel_rfl) h)

set_option maxRecDepth 100000 in
theorem cmpc_lc (a b : Int) : LC Try.prog 83 [.v (.int .i64 a), .v (.int .i64 b)] [] (fun z_ _ => z_ = .v (.int .i64 (if a < b then -1 else if b < a then 1 else 0))) :=
  cmpc_vc a b (by
    simp only [br_iff, AV.v.injEq, Value.int.injEq]
    repeat' split
    all_goals simp
    all_goals omega)

def cmpcH : List AV → Option AV
  | [.v (.int .i64 a), .v (.int .i64 b)] => some (.v (.int .i64 (if a < b then -1 else if b < a then 1 else 0)))
  | _ => none

theorem cmpc_ok : POk Try.prog 83 cmpcH := POk.of_lc (enters_of (c := body Try.f83) Try.func83 rfl (by kernel_rfl)) (by
  intro args v h
  unfold cmpcH at h
  split at h
  · cases h; exact cmpc_lc _ _
  · cases h)


def tbOr : Tbl := (83, .pure cmpcH) :: st21

theorem tbOr_ok : TblOk Try.prog tbOr := ⟨cmpc_ok, st21_ok⟩


set_option maxRecDepth 100000 in
theorem ord_vc (id t q1 q2 q3 : Int) (n : Nat) (kid kt : Int) (c2 c3 c4 c5 c6 c7 c8 : AV) {R : AV → Prop} (h : (∀ (n1 : Nat), n1 = n1 ∧ n = n ∧ n = n ∧ ∀ (n2 : Nat), ((0 : Int) ≤ (0 : Int) ∧ (0 : Int) < (2 : Int)) ∧ n2 = n2 ∧ br ((if t < kt then (-1 : Int) else if kt < t then (1 : Int) else (0 : Int)) != (0 : Int)) (some (Blk.mk n (Cont.cells [AV.v (Value.int IntKind.i64 kid), AV.v (Value.int IntKind.i64 kt), c2, c3, c4, c5, c6, c7, c8] (81 : Nat)) false) = some (Blk.mk n (Cont.cells [AV.v (Value.int IntKind.i64 kid), AV.v (Value.int IntKind.i64 kt), c2, c3, c4, c5, c6, c7, c8] (81 : Nat)) false) ∧ some (Blk.mk n (Cont.cells [AV.v (Value.int IntKind.i64 kid), AV.v (Value.int IntKind.i64 kt), c2, c3, c4, c5, c6, c7, c8] (81 : Nat)) false) = some (Blk.mk n (Cont.cells [AV.v (Value.int IntKind.i64 kid), AV.v (Value.int IntKind.i64 kt), c2, c3, c4, c5, c6, c7, c8] (81 : Nat)) false) ∧ some (Blk.mk n1 (Cont.cells [AV.v (Value.int IntKind.i64 t), AV.v (Value.int IntKind.i64 q1), AV.v (Value.int IntKind.i64 q2), AV.v (Value.int IntKind.i64 q3)] (31 : Nat)) true) = some (Blk.mk n1 (Cont.cells [AV.v (Value.int IntKind.i64 t), AV.v (Value.int IntKind.i64 q1), AV.v (Value.int IntKind.i64 q2), AV.v (Value.int IntKind.i64 q3)] (31 : Nat)) true) ∧ R (AV.v (Value.int IntKind.i64 (if t < kt then (-1 : Int) else if kt < t then (1 : Int) else (0 : Int))))) (((0 : Int) ≤ (1 : Int) ∧ (1 : Int) < (2 : Int)) ∧ n2 = n2 ∧ br ((if id < kid then (-1 : Int) else if kid < id then (1 : Int) else (0 : Int)) != (0 : Int)) (some (Blk.mk n (Cont.cells [AV.v (Value.int IntKind.i64 kid), AV.v (Value.int IntKind.i64 kt), c2, c3, c4, c5, c6, c7, c8] (81 : Nat)) false) = some (Blk.mk n (Cont.cells [AV.v (Value.int IntKind.i64 kid), AV.v (Value.int IntKind.i64 kt), c2, c3, c4, c5, c6, c7, c8] (81 : Nat)) false) ∧ some (Blk.mk n (Cont.cells [AV.v (Value.int IntKind.i64 kid), AV.v (Value.int IntKind.i64 kt), c2, c3, c4, c5, c6, c7, c8] (81 : Nat)) false) = some (Blk.mk n (Cont.cells [AV.v (Value.int IntKind.i64 kid), AV.v (Value.int IntKind.i64 kt), c2, c3, c4, c5, c6, c7, c8] (81 : Nat)) false) ∧ some (Blk.mk n1 (Cont.cells [AV.v (Value.int IntKind.i64 t), AV.v (Value.int IntKind.i64 q1), AV.v (Value.int IntKind.i64 q2), AV.v (Value.int IntKind.i64 q3)] (31 : Nat)) true) = some (Blk.mk n1 (Cont.cells [AV.v (Value.int IntKind.i64 t), AV.v (Value.int IntKind.i64 q1), AV.v (Value.int IntKind.i64 q2), AV.v (Value.int IntKind.i64 q3)] (31 : Nat)) true) ∧ R (AV.v (Value.int IntKind.i64 (if id < kid then (-1 : Int) else if kid < id then (1 : Int) else (0 : Int))))) (some (Blk.mk n (Cont.cells [AV.v (Value.int IntKind.i64 kid), AV.v (Value.int IntKind.i64 kt), c2, c3, c4, c5, c6, c7, c8] (81 : Nat)) false) = some (Blk.mk n (Cont.cells [AV.v (Value.int IntKind.i64 kid), AV.v (Value.int IntKind.i64 kt), c2, c3, c4, c5, c6, c7, c8] (81 : Nat)) false) ∧ some (Blk.mk n (Cont.cells [AV.v (Value.int IntKind.i64 kid), AV.v (Value.int IntKind.i64 kt), c2, c3, c4, c5, c6, c7, c8] (81 : Nat)) false) = some (Blk.mk n (Cont.cells [AV.v (Value.int IntKind.i64 kid), AV.v (Value.int IntKind.i64 kt), c2, c3, c4, c5, c6, c7, c8] (81 : Nat)) false) ∧ some (Blk.mk n1 (Cont.cells [AV.v (Value.int IntKind.i64 t), AV.v (Value.int IntKind.i64 q1), AV.v (Value.int IntKind.i64 q2), AV.v (Value.int IntKind.i64 q3)] (31 : Nat)) true) = some (Blk.mk n1 (Cont.cells [AV.v (Value.int IntKind.i64 t), AV.v (Value.int IntKind.i64 q1), AV.v (Value.int IntKind.i64 q2), AV.v (Value.int IntKind.i64 q3)] (31 : Nat)) true) ∧ R (AV.v (Value.int IntKind.i64 (0 : Int))))))) : LC Try.prog 60 [.v (.int .i64 id), .agg [.v (.int .i64 t), .v (.int .i64 q1), .v (.int .i64 q2), .v (.int .i64 q3)], .ptr 0 n 0] [⟨n, .cells [.v (.int .i64 kid), .v (.int .i64 kt), c2, c3, c4, c5, c6, c7, c8] 81, false⟩] (fun z_ _ => R z_) :=
  lc_of_exec (tbl := tbOr) tab_ok tbOr_ok mixed noinv 2 _ Try.func60 rfl Try.ntmps60 (by decide) (by kernel_rfl) (Nat.le_of_ble_eq_true rfl) (@Eq.mpr (execN tab tbOr noinv 2 Try.f60.ntmps [] none 0 (body Try.f60) (argsT [.v (.int .i64 id), .agg [.v (.int .i64 t), .v (.int .i64 q1), .v (.int .i64 q2), .v (.int .i64 q3)], .ptr 0 n 0] 0) [⟨n, .cells [.v (.int .i64 kid), .v (.int .i64 kt), c2, c3, c4, c5, c6, c7, c8] 81, false⟩] (post Try.f60 tab (retK (fun z_ _ => R z_)))) _ (by kernel_rfl) h)


theorem ht_ok : HOk Try.prog 50 htH := HOk.of_look (enters_of (c := body Try.f50) Try.func50 rfl (by kernel_rfl)) fun rs args H K hk => by
  unfold htH at hk
  split at hk
  · rename_i i p
    obtain ⟨t, S, own, h1, rfl, hk⟩ := hk
    rw [nth_eq] at h1
    refine ⟨_, hk, fun w hw => ?_⟩
    obtain ⟨H0, rfl, _, h0⟩ := tr_lt (t := t) (S := S) (by have g := hw.all i _ h1; exact g)
    cases t with
    | leaf => exact ⟨[], [.v (.pointer none)], holds_nil w, rfl, rfl, ht0_vc (by first | rfl | trivial | exact ⟨rfl⟩)⟩
    | node n id q hi la l r =>
      exact ⟨[⟨n, .cells [.v (.int .i64 id), .v (.int .i64 q.t), .v (.int .i64 q.l), .v (.int .i64 q.b), .v (.int .i64 q.r), .v (.pointer l.root), .v (.pointer r.root), .v (.int .i64 hi), .v (.int .i64 la)] 81, false⟩], [.ptr 0 n 0], holds_one (by have g := h0.all 0 _ rfl; exact g), rfl, rfl, ht1_vc n _ _ _ _ _ _ _ _ hi (by first | rfl | trivial | exact ⟨rfl, rfl⟩)⟩
  · rename_i i n
    split at hk
    · rename_i m c0 c1 c2 c3 c4 c5 c6 hi c8 own h1
      obtain ⟨rfl, hk⟩ := hk
      rw [nth_eq] at h1
      exact ⟨_, hk, fun w hw => ⟨[⟨n, .cells [c0, c1, c2, c3, c4, c5, c6, .v (.int .i64 hi), c8] 81, false⟩], [.ptr 0 n 0], holds_one (by have g := hw.all i _ h1; exact g), rfl, rfl, ht1_vc n _ _ _ _ _ _ _ _ hi (by first | rfl | trivial | exact ⟨rfl, rfl⟩)⟩⟩
    · exact hk.elim
  · exact hk.elim

theorem bt_ok : HOk Try.prog 68 btH := HOk.of_look (enters_of (c := body Try.f68) Try.func68 rfl (by kernel_rfl)) fun rs args H K hk => by
  unfold btH at hk
  split at hk
  · rename_i i p
    obtain ⟨t, S, own, h1, rfl, hk⟩ := hk
    rw [nth_eq] at h1
    refine ⟨_, hk, fun w hw => ?_⟩
    obtain ⟨H0, rfl, _, h0⟩ := tr_lt (t := t) (S := S) (by have g := hw.all i _ h1; exact g)
    cases t with
    | leaf => exact ⟨[], [.v (.pointer none)], holds_nil w, rfl, rfl, bt0_vc (by first | rfl | trivial | exact ⟨rfl⟩)⟩
    | node n id q hi la l r =>
      exact ⟨[⟨n, .cells [.v (.int .i64 id), .v (.int .i64 q.t), .v (.int .i64 q.l), .v (.int .i64 q.b), .v (.int .i64 q.r), .v (.pointer l.root), .v (.pointer r.root), .v (.int .i64 hi), .v (.int .i64 la)] 81, false⟩], [.ptr 0 n 0], holds_one (by have g := h0.all 0 _ rfl; exact g), rfl, rfl, bt1_vc n _ _ _ _ _ _ _ _ la (by first | rfl | trivial | exact ⟨rfl, rfl⟩)⟩
  · rename_i i n
    split at hk
    · rename_i m c0 c1 c2 c3 c4 c5 c6 c7 la own h1
      obtain ⟨rfl, hk⟩ := hk
      rw [nth_eq] at h1
      exact ⟨_, hk, fun w hw => ⟨[⟨n, .cells [c0, c1, c2, c3, c4, c5, c6, c7, .v (.int .i64 la)] 81, false⟩], [.ptr 0 n 0], holds_one (by have g := hw.all i _ h1; exact g), rfl, rfl, bt1_vc n _ _ _ _ _ _ _ _ la (by first | rfl | trivial | exact ⟨rfl, rfl⟩)⟩⟩
    · exact hk.elim
  · exact hk.elim

theorem ord_lc (id t q1 q2 q3 : Int) (n : Nat) (kid kt : Int) (c2 c3 c4 c5 c6 c7 c8 : AV) : LC Try.prog 60 [.v (.int .i64 id), .agg [.v (.int .i64 t), .v (.int .i64 q1), .v (.int .i64 q2), .v (.int .i64 q3)], .ptr 0 n 0] [⟨n, .cells [.v (.int .i64 kid), .v (.int .i64 kt), c2, c3, c4, c5, c6, c7, c8] 81, false⟩] (fun z _ => z = .v (.int .i64 (ordV t id kt kid))) :=
  ord_vc id t q1 q2 q3 n kid kt c2 c3 c4 c5 c6 c7 c8 (by
    simp only [true_and, and_true, AV.v.injEq, Value.int.injEq, ordV]
    intro n1 n2
    refine ⟨by omega, br_intro (fun h => ?_) (fun h => ⟨by omega, br_intro (fun h2 => ?_) (fun h2 => ?_)⟩)⟩
    all_goals simp only [bne_iff_ne, ne_eq, bne_eq_false_iff_eq] at *
    all_goals (repeat' split)
    all_goals (first | omega | (simp_all; done) | skip)
    all_goals (split at h <;> (first | omega | skip))
    all_goals (split at h <;> (first | omega | skip)))

theorem or_ok : HOk Try.prog 60 orH := HOk.of_look (enters_of (c := body Try.f60) Try.func60 rfl (by kernel_rfl)) fun rs args H K hk => by
  unfold orH at hk
  split at hk
  · rename_i id t q1 q2 q3 i n
    split at hk
    · rename_i m kid kt c2 c3 c4 c5 c6 c7 c8 own h1
      obtain ⟨rfl, hk⟩ := hk
      rw [nth_eq] at h1
      exact ⟨_, hk, fun w hw => ⟨[⟨n, .cells [.v (.int .i64 kid), .v (.int .i64 kt), c2, c3, c4, c5, c6, c7, c8] 81, false⟩], [.v (.int .i64 id), .agg [.v (.int .i64 t), .v (.int .i64 q1), .v (.int .i64 q2), .v (.int .i64 q3)], .ptr 0 n 0], holds_one (by have g := hw.all i _ h1; exact g), rfl, rfl, (ord_lc id t q1 q2 q3 n kid kt c2 c3 c4 c5 c6 c7 c8).mono fun z H' hz => by rw [hz]⟩⟩
    · exact hk.elim
  · exact hk.elim

end Go.Proofs.Ytjnehpljhnlbfaa

