import Derived.Test.YtjnehpljhnlbfaaA
import Derived.Test.YtjnehpljhnlbfaaY8
namespace Go.Sp
open Go.Eng Go.Proofs.Ytjnehpljhnlbfaa
structure RC where
  t : Int
  l : Int
  b : Int
  r : Int
inductive PT where
  | leaf
  | node (n : Nat) (id : Int) (q : RC) (hi la : Int) (l r : PT)
def PT.root : PT → Option Addr
  | .leaf => none
  | .node n _ _ _ _ _ _ => some ⟨n, 0, none⟩
def PT.ht : PT → Int
  | .leaf => 0
  | .node _ _ _ h _ _ _ => h
def PT.bt : PT → Int
  | .leaf => 0
  | .node _ _ _ _ b _ _ => b
end Go.Sp
namespace Go.Eng
open Go Go.Sp Go.Proofs.Ytjnehpljhnlbfaa
abbrev ndB (n : Nat) (id : Int) (q : RC) (pl pr : AV) (hi la : Int) : Blk := ⟨n, .cells [.v (.int .i64 id), .v (.int .i64 q.t), .v (.int .i64 q.l), .v (.int .i64 q.b), .v (.int .i64 q.r), pl, pr, .v (.int .i64 hi), .v (.int .i64 la)] 81, true⟩
def treeH : PT → HH
  | .leaf => []
  | .node n id q hi la l r => ndB n id q (.v (.pointer l.root)) (.v (.pointer r.root)) hi la :: (treeH l ++ treeH r)
def treeC (t : PT) (H0 : HH) : Prop := H0 = treeH t
theorem treeH_own : ∀ t : PT, allOwn (treeH t)
  | .leaf => fun b hb => (by cases hb)
  | .node n id q hi la l r => fun b hb => by
    rcases List.mem_cons.1 hb with rfl | hb
    · rfl
    · rcases List.mem_append.1 hb with hb | hb
      · exact treeH_own l b hb
      · exact treeH_own r b hb
abbrev trB (t : PT) (S : List Nat) : Blk := packB treeC 0 t S
theorem HoldsH.perm {H H' : HH} {w : World} (hp : H.Perm H') (h : HoldsH H w) : HoldsH H' w := by
  have h1 : H.Pairwise (fun b c => ∀ k ∈ b.nums, k ∉ c.nums) := by
    rw [List.pairwise_iff_getElem]
    intro i j hi hj hij
    exact h.apart i j _ _ (List.getElem?_eq_getElem hi) (List.getElem?_eq_getElem hj) (by omega)
  have h2 := (hp.pairwise_iff (fun {b c} hbc k hk hk2 => hbc k hk2 hk)).1 h1
  refine ⟨fun i b hi => ?_, fun i j b c hi hj hij k hk hk2 => ?_⟩
  · have := hp.mem_iff.2 (List.mem_of_getElem? hi)
    obtain ⟨q, hq⟩ := List.getElem?_of_mem this
    exact h.all q b hq
  · obtain ⟨hi', rfl⟩ := List.getElem?_eq_some_iff.1 hi
    obtain ⟨hj', rfl⟩ := List.getElem?_eq_some_iff.1 hj
    rw [List.pairwise_iff_getElem] at h2
    rcases Nat.lt_or_gt_of_ne hij with h3 | h3
    · exact h2 i j hi' hj' h3 k hk hk2
    · exact h2 j i hj' hi' h3 k hk2 hk
theorem To.perm {H H' : HH} {w : World} (hp : H.Perm H') (h : HoldsH H w) : To H H' w :=
  ⟨h.perm hp, fun i b hi k hk => by
    obtain ⟨q, hq⟩ := List.getElem?_of_mem (hp.mem_iff.2 (List.mem_of_getElem? hi))
    exact ⟨q, b, hq, hk, fun h => h⟩⟩
theorem tree_open {n : Nat} {id : Int} {q : RC} {hi la : Int} {l r : PT} {S : List Nat} {Hr : HH} {w : World} (hw : HoldsH (trB (.node n id q hi la l r) S :: Hr) w) :
    ∃ Sl Sr, To (trB (.node n id q hi la l r) S :: Hr) (ndB n id q (.v (.pointer l.root)) (.v (.pointer r.root)) hi la :: trB l Sl :: trB r Sr :: Hr) w := by
  obtain ⟨H0, g1, g2, g3, g4⟩ := To.unpack hw
  have g1 : H0 = treeH (.node n id q hi la l r) := g1
  subst g1
  have e0 : treeH (.node n id q hi la l r) ++ Hr = ndB n id q (.v (.pointer l.root)) (.v (.pointer r.root)) hi la :: (treeH l ++ (treeH r ++ Hr)) := by simp [treeH]
  rw [e0] at g4
  have p1 : (ndB n id q (.v (.pointer l.root)) (.v (.pointer r.root)) hi la :: (treeH l ++ (treeH r ++ Hr))).Perm (treeH l ++ (treeH r ++ ndB n id q (.v (.pointer l.root)) (.v (.pointer r.root)) hi la :: Hr)) := by
    rw [← List.append_assoc, ← List.append_assoc]
    exact List.perm_middle.symm
  have t1 := To.perm p1 g4.hp
  have t2 := To.pack (C := treeC) (x := l) (Hr := treeH r ++ ndB n id q (.v (.pointer l.root)) (.v (.pointer r.root)) hi la :: Hr) 0 rfl (treeH_own l) t1.hp
  have p2 : (trB l (numsAll (treeH l)) :: (treeH r ++ ndB n id q (.v (.pointer l.root)) (.v (.pointer r.root)) hi la :: Hr)).Perm (treeH r ++ trB l (numsAll (treeH l)) :: ndB n id q (.v (.pointer l.root)) (.v (.pointer r.root)) hi la :: Hr) := List.perm_middle.symm
  have t3 := To.perm p2 t2.hp
  have t4 := To.pack (C := treeC) (x := r) (Hr := trB l (numsAll (treeH l)) :: ndB n id q (.v (.pointer l.root)) (.v (.pointer r.root)) hi la :: Hr) 0 rfl (treeH_own r) t3.hp
  have l5 : LeH (trB r (numsAll (treeH r)) :: trB l (numsAll (treeH l)) :: ndB n id q (.v (.pointer l.root)) (.v (.pointer r.root)) hi la :: Hr) (ndB n id q (.v (.pointer l.root)) (.v (.pointer r.root)) hi la :: trB l (numsAll (treeH l)) :: trB r (numsAll (treeH r)) :: Hr) := ⟨fun w h => (To.perm ((List.Perm.swap ..).trans ((List.Perm.cons _ (List.Perm.swap ..)).trans (List.Perm.swap ..))) h).hp, fun i b hib k hk => by
    have pp : (trB r (numsAll (treeH r)) :: trB l (numsAll (treeH l)) :: ndB n id q (.v (.pointer l.root)) (.v (.pointer r.root)) hi la :: Hr).Perm (ndB n id q (.v (.pointer l.root)) (.v (.pointer r.root)) hi la :: trB l (numsAll (treeH l)) :: trB r (numsAll (treeH r)) :: Hr) := (List.Perm.swap ..).trans ((List.Perm.cons _ (List.Perm.swap ..)).trans (List.Perm.swap ..))
    obtain ⟨q', hq⟩ := List.getElem?_of_mem (pp.mem_iff.2 (List.mem_of_getElem? hib))
    exact ⟨q', b, hq, hk, fun h => h⟩⟩
  exact ⟨_, _, ((((g4.trans t1).trans t2).trans t3).trans t4).trans (l5.to t4.hp)⟩
theorem tr_lt {t : PT} {S : List Nat} {w : World} (h : (trB t S).c.holds w (trB t S).num) : ∃ H0, H0 = treeH t ∧ numsAll H0 = S ∧ HoldsH H0 w := by
  obtain ⟨H0, g1, g2, g3, g4⟩ := pack_open h
  exact ⟨H0, g1, g3, g4⟩
theorem tree_close {n : Nat} {id : Int} {q : RC} {pl pr : AV} {hi la : Int} {l r : PT} {Sl Sr : List Nat} {Hr : HH} (hl : pl.den = .pointer l.root) (hr : pr.den = .pointer r.root) :
    LeH (ndB n id q pl pr hi la :: trB l Sl :: trB r Sr :: Hr) (trB (.node n id q hi la l r) (n :: (Sl ++ Sr)) :: Hr) := by
  refine ⟨fun w hw => ?_, fun i b hib k hk => ?_⟩
  · obtain ⟨Hl, rfl, el, hl0⟩ := tr_lt (hw.all 1 _ rfl)
    obtain ⟨Hq, rfl, er, hr0⟩ := tr_lt (hw.all 2 _ rfl)
    have h1 : HoldsH [ndB n id q (.v (.pointer l.root)) (.v (.pointer r.root)) hi la] w := holds_one (by
      have := hw.all 0 _ rfl
      show Held w n (denL _) 81
      have e : denL [.v (.int .i64 id), .v (.int .i64 q.t), .v (.int .i64 q.l), .v (.int .i64 q.b), .v (.int .i64 q.r), pl, pr, .v (.int .i64 hi), .v (.int .i64 la)] = denL [.v (.int .i64 id), .v (.int .i64 q.t), .v (.int .i64 q.l), .v (.int .i64 q.b), .v (.int .i64 q.r), .v (.pointer l.root), .v (.pointer r.root), .v (.int .i64 hi), .v (.int .i64 la)] := by
        simp only [denL, hl, hr, AV.den]
      rw [← e]; exact this)
    have a01 : ∀ k ∈ numsAll (treeH l), k ≠ n := fun k hk e => by
      rw [el] at hk
      exact hw.apart 0 1 _ _ rfl rfl (by decide) n (by simp [Blk.nums, Cont.nums]) (by rw [← e]; exact hk)
    have a02 : ∀ k ∈ numsAll (treeH r), k ≠ n := fun k hk e => by
      rw [er] at hk
      exact hw.apart 0 2 _ _ rfl rfl (by decide) n (by simp [Blk.nums, Cont.nums]) (by rw [← e]; exact hk)
    have a12 : ∀ k ∈ numsAll (treeH l), k ∉ numsAll (treeH r) := fun k hk hk2 => by
      rw [el] at hk; rw [er] at hk2
      exact hw.apart 1 2 _ _ rfl rfl (by decide) k hk hk2
    have h2 : HoldsH (treeH l ++ treeH r) w := hl0.join hr0 a12
    have h3 : HoldsH (treeH (.node n id q hi la l r)) w := h1.join h2 fun k hk hk2 => by
      have e1 : k = n := by simpa [numsAll, Blk.nums, Cont.nums] using hk
      have hk2 : k ∈ (treeH l ++ treeH r).flatMap Blk.nums := hk2
      rw [List.flatMap_append, List.mem_append] at hk2
      rcases hk2 with h | h
      · exact a01 k h e1
      · exact a02 k h e1
    have en : numsAll (treeH (.node n id q hi la l r)) = n :: (Sl ++ Sr) := by
      rw [← el, ← er]
      simp [treeH, numsAll, Blk.nums, Cont.nums]
    have h4 : HoldsH [trB (.node n id q hi la l r) (n :: (Sl ++ Sr))] w := holds_one (by rw [← en]; exact pack_close (C := treeC) (x := .node n id q hi la l r) rfl (treeH_own _) h3)
    have hR : HoldsH Hr w := (HoldsH.append (H := [_, _, _]) hw).2.1
    refine HoldsH.join (H := [trB (.node n id q hi la l r) (n :: (Sl ++ Sr))]) h4 hR fun k hk hk2 => ?_
    have hk : k ∈ n :: (Sl ++ Sr) := by simpa [numsAll, Blk.nums, Cont.nums, packC] using hk
    refine (HoldsH.append (H := [_, _, _]) hw).2.2 k ?_ hk2
    simp only [numsAll, List.flatMap_cons, List.flatMap_nil, List.append_nil]
    rcases List.mem_cons.1 hk with rfl | hk
    · exact List.mem_append_left _ (by simp [Blk.nums, Cont.nums])
    · rcases List.mem_append.1 hk with hk | hk
      · exact List.mem_append_right _ (List.mem_append_left _ hk)
      · exact List.mem_append_right _ (List.mem_append_right _ hk)
  · cases i with
    | zero =>
      cases hib
      have hk : k ∈ n :: (Sl ++ Sr) := hk
      rcases List.mem_cons.1 hk with rfl | hk
      · exact ⟨0, _, rfl, by simp [Blk.nums, Cont.nums], fun _ => rfl⟩
      · rcases List.mem_append.1 hk with hk | hk
        · exact ⟨1, _, rfl, hk, fun _ => rfl⟩
        · exact ⟨2, _, rfl, hk, fun _ => rfl⟩
    | succ i => exact ⟨i + 3, b, hib, hk, fun h => h⟩
end Go.Eng
namespace Go.Sp
open Go.Eng Go.Proofs.Ytjnehpljhnlbfaa
def ordV (top id ktop kid : Int) : Int := if top < ktop then -1 else if ktop < top then 1 else if id < kid then -1 else if kid < id then 1 else 0
end Go.Sp
namespace Go.Eng
open Go Go.Sp Go.Proofs.Ytjnehpljhnlbfaa
def htH : Handler := fun _ args H K =>
  match args with
  | [.pp i p] => ∃ (t : PT) (S : List Nat) (own : Bool), nth H i = some ⟨0, packC treeC t S, own⟩ ∧ p = t.root ∧ K (.ret (.v (.int .i64 t.ht))) H
  | [.ptr i n 0] => (match nth H i with | some ⟨m, .cells [_, _, _, _, _, _, _, .v (.int .i64 hi), _] 81, _⟩ => n = m ∧ K (.ret (.v (.int .i64 hi))) H | _ => False)
  | _ => False
def btH : Handler := fun _ args H K =>
  match args with
  | [.pp i p] => ∃ (t : PT) (S : List Nat) (own : Bool), nth H i = some ⟨0, packC treeC t S, own⟩ ∧ p = t.root ∧ K (.ret (.v (.int .i64 t.bt))) H
  | [.ptr i n 0] => (match nth H i with | some ⟨m, .cells [_, _, _, _, _, _, _, _, .v (.int .i64 la)] 81, _⟩ => n = m ∧ K (.ret (.v (.int .i64 la))) H | _ => False)
  | _ => False
def orH : Handler := fun _ args H K =>
  match args with
  | [.v (.int .i64 id), .agg [.v (.int .i64 t), .v (.int .i64 _), .v (.int .i64 _), .v (.int .i64 _)], .ptr i n 0] => (match nth H i with | some ⟨m, .cells [.v (.int .i64 kid), .v (.int .i64 kt), _, _, _, _, _, _, _] 81, _⟩ => n = m ∧ K (.ret (.v (.int .i64 (ordV t id kt kid)))) H | _ => False)
  | _ => False
end Go.Eng
namespace Go.Proofs.Ytjnehpljhnlbfaa
open Go Go.Eng Go.Sp
set_option linter.unusedVariables false
set_option linter.unusedSimpArgs false
set_option maxRecDepth 100000 in
theorem ht0_vc  {R : AV → Prop} (h : (R (AV.v (Value.int IntKind.i64 (0 : Int))))) : LC Try.prog 50 [.v (.pointer none)] [] (fun z_ _ => R z_) :=
  lc_of_exec (tbl := []) tab_ok trivial mixed noinv 2 _ Try.func50 rfl Try.ntmps50 (by decide) (by kernel_rfl) (Nat.le_of_ble_eq_true rfl) (@Eq.mpr (execN tab [] noinv 2 Try.f50.ntmps [] none 0 (body Try.f50) (argsT [.v (.pointer none)] 0) [] (post Try.f50 tab (retK (fun z_ _ => R z_)))) _ (by kernel_rfl) h)
set_option maxRecDepth 100000 in
theorem ht1_vc (n : Nat) (c0 c1 c2 c3 c4 c5 c6 c8 : AV) (hi : Int) {R : AV → Prop} (h : (n = n ∧ R (AV.v (Value.int IntKind.i64 hi)))) : LC Try.prog 50 [.ptr 0 n 0] [⟨n, .cells [c0, c1, c2, c3, c4, c5, c6, .v (.int .i64 hi), c8] 81, false⟩] (fun z_ _ => R z_) :=
  lc_of_exec (tbl := []) tab_ok trivial mixed noinv 2 _ Try.func50 rfl Try.ntmps50 (by decide) (by kernel_rfl) (Nat.le_of_ble_eq_true rfl) (@Eq.mpr (execN tab [] noinv 2 Try.f50.ntmps [] none 0 (body Try.f50) (argsT [.ptr 0 n 0] 0) [⟨n, .cells [c0, c1, c2, c3, c4, c5, c6, .v (.int .i64 hi), c8] 81, false⟩] (post Try.f50 tab (retK (fun z_ _ => R z_)))) _ (by kernel_rfl) h)
set_option maxRecDepth 100000 in
theorem bt0_vc  {R : AV → Prop} (h : (R (AV.v (Value.int IntKind.i64 (0 : Int))))) : LC Try.prog 68 [.v (.pointer none)] [] (fun z_ _ => R z_) :=
  lc_of_exec (tbl := []) tab_ok trivial mixed noinv 2 _ Try.func68 rfl Try.ntmps68 (by decide) (by kernel_rfl) (Nat.le_of_ble_eq_true rfl) (@Eq.mpr (execN tab [] noinv 2 Try.f68.ntmps [] none 0 (body Try.f68) (argsT [.v (.pointer none)] 0) [] (post Try.f68 tab (retK (fun z_ _ => R z_)))) _ (by kernel_rfl) h)
set_option maxRecDepth 100000 in
theorem bt1_vc (n : Nat) (c0 c1 c2 c3 c4 c5 c6 c7 : AV) (la : Int) {R : AV → Prop} (h : (n = n ∧ R (AV.v (Value.int IntKind.i64 la)))) : LC Try.prog 68 [.ptr 0 n 0] [⟨n, .cells [c0, c1, c2, c3, c4, c5, c6, c7, .v (.int .i64 la)] 81, false⟩] (fun z_ _ => R z_) :=
  lc_of_exec (tbl := []) tab_ok trivial mixed noinv 2 _ Try.func68 rfl Try.ntmps68 (by decide) (by kernel_rfl) (Nat.le_of_ble_eq_true rfl) (@Eq.mpr (execN tab [] noinv 2 Try.f68.ntmps [] none 0 (body Try.f68) (argsT [.ptr 0 n 0] 0) [⟨n, .cells [c0, c1, c2, c3, c4, c5, c6, c7, .v (.int .i64 la)] 81, false⟩] (post Try.f68 tab (retK (fun z_ _ => R z_)))) _ (by kernel_rfl) h)
set_option maxRecDepth 100000 in
theorem cmpc_vc (a b : Int) {R : AV → Prop} (h : (br (a != a) (br (b != b) (R (AV.v (Value.int IntKind.i64 (0 : Int)))) (R (AV.v (Value.int IntKind.i64 (-1 : Int))))) (br (b != b) (R (AV.v (Value.int IntKind.i64 (1 : Int)))) (br (decide (a < b)) (R (AV.v (Value.int IntKind.i64 (-1 : Int)))) (br (decide (a > b)) (R (AV.v (Value.int IntKind.i64 (1 : Int)))) (R (AV.v (Value.int IntKind.i64 (0 : Int))))))))) : LC Try.prog 83 [.v (.int .i64 a), .v (.int .i64 b)] [] (fun z_ _ => R z_) :=
  lc_of_exec (tbl := st21) tab_ok st21_ok mixed noinv 2 _ Try.func83 rfl Try.ntmps83 (by decide) (by kernel_rfl) (Nat.le_of_ble_eq_true rfl) (@Eq.mpr (execN tab st21 noinv 2 Try.f83.ntmps [] none 0 (body Try.f83) (argsT [.v (.int .i64 a), .v (.int .i64 b)] 0) [] (post Try.f83 tab (retK (fun z_ _ => R z_)))) _ (by kernel_rfl) h)
set_option maxRecDepth 100000 in
theorem cmpc_lc (a b : Int) : LC Try.prog 83 [.v (.int .i64 a), .v (.int .i64 b)] [] (fun z_ _ => z_ = .v (.int .i64 (if a < b then -1 else if b < a then 1 else 0))) :=
  cmpc_vc a b (by
    simp only [br_iff, AV.v.injEq, Value.int.injEq]
    repeat' split
    all_goals simp
    all_goals omega)
def cmpcH : List AV → Option AV
  | [.v (.int .i64 a), .v (.int .i64 b)] => some (.v (.int .i64 (if a < b then -1 else if b < a then 1 else 0)))
  | _ => none
theorem cmpc_ok : POk Try.prog 83 cmpcH := POk.of_lc (enters_of (c := body Try.f83) Try.func83 rfl (by kernel_rfl)) (by
  intro args v h
  unfold cmpcH at h
  split at h
  · cases h; exact cmpc_lc _ _
  · cases h)
def tbOr : Tbl := (83, .pure cmpcH) :: st21
theorem tbOr_ok : TblOk Try.prog tbOr := ⟨cmpc_ok, st21_ok⟩
set_option maxRecDepth 100000 in
theorem ord_vc (id t q1 q2 q3 : Int) (n : Nat) (kid kt : Int) (c2 c3 c4 c5 c6 c7 c8 : AV) {R : AV → Prop} (h : (∀ (n1 : Nat), n1 = n1 ∧ n = n ∧ n = n ∧ ∀ (n2 : Nat), ((0 : Int) ≤ (0 : Int) ∧ (0 : Int) < (2 : Int)) ∧ n2 = n2 ∧ br ((if t < kt then (-1 : Int) else if kt < t then (1 : Int) else (0 : Int)) != (0 : Int)) (Sm (some (Blk.mk n (Cont.cells [i6 kid, i6 kt, c2, c3, c4, c5, c6, c7, c8] 81) false)) ∧ Sm (some (Blk.mk n (Cont.cells [i6 kid, i6 kt, c2, c3, c4, c5, c6, c7, c8] 81) false)) ∧ Sm (some (Blk.mk n1 (Cont.cells [i6 t, i6 q1, i6 q2, i6 q3] 31) true)) ∧ R (i6 (if t < kt then (-1 : Int) else if kt < t then (1 : Int) else (0 : Int)))) (((0 : Int) ≤ (1 : Int) ∧ (1 : Int) < (2 : Int)) ∧ n2 = n2 ∧ br ((if id < kid then (-1 : Int) else if kid < id then (1 : Int) else (0 : Int)) != (0 : Int)) (Sm (some (Blk.mk n (Cont.cells [i6 kid, i6 kt, c2, c3, c4, c5, c6, c7, c8] 81) false)) ∧ Sm (some (Blk.mk n (Cont.cells [i6 kid, i6 kt, c2, c3, c4, c5, c6, c7, c8] 81) false)) ∧ Sm (some (Blk.mk n1 (Cont.cells [i6 t, i6 q1, i6 q2, i6 q3] 31) true)) ∧ R (i6 (if id < kid then (-1 : Int) else if kid < id then (1 : Int) else (0 : Int)))) (Sm (some (Blk.mk n (Cont.cells [i6 kid, i6 kt, c2, c3, c4, c5, c6, c7, c8] 81) false)) ∧ Sm (some (Blk.mk n (Cont.cells [i6 kid, i6 kt, c2, c3, c4, c5, c6, c7, c8] 81) false)) ∧ Sm (some (Blk.mk n1 (Cont.cells [i6 t, i6 q1, i6 q2, i6 q3] 31) true)) ∧ R (i6 (0 : Int)))))) : LC Try.prog 60 [.v (.int .i64 id), .agg [.v (.int .i64 t), .v (.int .i64 q1), .v (.int .i64 q2), .v (.int .i64 q3)], .ptr 0 n 0] [⟨n, .cells [.v (.int .i64 kid), .v (.int .i64 kt), c2, c3, c4, c5, c6, c7, c8] 81, false⟩] (fun z_ _ => R z_) :=
  lc_of_exec (tbl := tbOr) tab_ok tbOr_ok mixed noinv 2 _ Try.func60 rfl Try.ntmps60 (by decide) (by kernel_rfl) (Nat.le_of_ble_eq_true rfl) (@Eq.mpr (execN tab tbOr noinv 2 Try.f60.ntmps [] none 0 (body Try.f60) (argsT [.v (.int .i64 id), .agg [.v (.int .i64 t), .v (.int .i64 q1), .v (.int .i64 q2), .v (.int .i64 q3)], .ptr 0 n 0] 0) [⟨n, .cells [.v (.int .i64 kid), .v (.int .i64 kt), c2, c3, c4, c5, c6, c7, c8] 81, false⟩] (post Try.f60 tab (retK (fun z_ _ => R z_)))) _ (by kernel_rfl) h)
theorem ht_ok : HOk Try.prog 50 htH := HOk.of_look (enters_of (c := body Try.f50) Try.func50 rfl (by kernel_rfl)) fun rs args H K hk => by
  unfold htH at hk
  split at hk
  · rename_i i p
    obtain ⟨t, S, own, h1, rfl, hk⟩ := hk
    rw [nth_eq] at h1
    refine ⟨_, hk, fun w hw => ?_⟩
    obtain ⟨H0, rfl, _, h0⟩ := tr_lt (t := t) (S := S) (by have g := hw.all i _ h1; exact g)
    cases t with
    | leaf => exact ⟨[], [.v (.pointer none)], holds_nil w, rfl, rfl, ht0_vc (by first | rfl | trivial | exact ⟨rfl⟩)⟩
    | node n id q hi la l r =>
      exact ⟨[⟨n, .cells [.v (.int .i64 id), .v (.int .i64 q.t), .v (.int .i64 q.l), .v (.int .i64 q.b), .v (.int .i64 q.r), .v (.pointer l.root), .v (.pointer r.root), .v (.int .i64 hi), .v (.int .i64 la)] 81, false⟩], [.ptr 0 n 0], holds_one (by have g := h0.all 0 _ rfl; exact g), rfl, rfl, ht1_vc n _ _ _ _ _ _ _ _ hi (by first | rfl | trivial | exact ⟨rfl, rfl⟩)⟩
  · rename_i i n
    split at hk
    · rename_i m c0 c1 c2 c3 c4 c5 c6 hi c8 own h1
      obtain ⟨rfl, hk⟩ := hk
      rw [nth_eq] at h1
      exact ⟨_, hk, fun w hw => ⟨[⟨n, .cells [c0, c1, c2, c3, c4, c5, c6, .v (.int .i64 hi), c8] 81, false⟩], [.ptr 0 n 0], holds_one (by have g := hw.all i _ h1; exact g), rfl, rfl, ht1_vc n _ _ _ _ _ _ _ _ hi (by first | rfl | trivial | exact ⟨rfl, rfl⟩)⟩⟩
    · exact hk.elim
  · exact hk.elim
theorem bt_ok : HOk Try.prog 68 btH := HOk.of_look (enters_of (c := body Try.f68) Try.func68 rfl (by kernel_rfl)) fun rs args H K hk => by
  unfold btH at hk
  split at hk
  · rename_i i p
    obtain ⟨t, S, own, h1, rfl, hk⟩ := hk
    rw [nth_eq] at h1
    refine ⟨_, hk, fun w hw => ?_⟩
    obtain ⟨H0, rfl, _, h0⟩ := tr_lt (t := t) (S := S) (by have g := hw.all i _ h1; exact g)
    cases t with
    | leaf => exact ⟨[], [.v (.pointer none)], holds_nil w, rfl, rfl, bt0_vc (by first | rfl | trivial | exact ⟨rfl⟩)⟩
    | node n id q hi la l r =>
      exact ⟨[⟨n, .cells [.v (.int .i64 id), .v (.int .i64 q.t), .v (.int .i64 q.l), .v (.int .i64 q.b), .v (.int .i64 q.r), .v (.pointer l.root), .v (.pointer r.root), .v (.int .i64 hi), .v (.int .i64 la)] 81, false⟩], [.ptr 0 n 0], holds_one (by have g := h0.all 0 _ rfl; exact g), rfl, rfl, bt1_vc n _ _ _ _ _ _ _ _ la (by first | rfl | trivial | exact ⟨rfl, rfl⟩)⟩
  · rename_i i n
    split at hk
    · rename_i m c0 c1 c2 c3 c4 c5 c6 c7 la own h1
      obtain ⟨rfl, hk⟩ := hk
      rw [nth_eq] at h1
      exact ⟨_, hk, fun w hw => ⟨[⟨n, .cells [c0, c1, c2, c3, c4, c5, c6, c7, .v (.int .i64 la)] 81, false⟩], [.ptr 0 n 0], holds_one (by have g := hw.all i _ h1; exact g), rfl, rfl, bt1_vc n _ _ _ _ _ _ _ _ la (by first | rfl | trivial | exact ⟨rfl, rfl⟩)⟩⟩
    · exact hk.elim
  · exact hk.elim
theorem ord_lc (id t q1 q2 q3 : Int) (n : Nat) (kid kt : Int) (c2 c3 c4 c5 c6 c7 c8 : AV) : LC Try.prog 60 [.v (.int .i64 id), .agg [.v (.int .i64 t), .v (.int .i64 q1), .v (.int .i64 q2), .v (.int .i64 q3)], .ptr 0 n 0] [⟨n, .cells [.v (.int .i64 kid), .v (.int .i64 kt), c2, c3, c4, c5, c6, c7, c8] 81, false⟩] (fun z _ => z = .v (.int .i64 (ordV t id kt kid))) :=
  ord_vc id t q1 q2 q3 n kid kt c2 c3 c4 c5 c6 c7 c8 (by
    simp only [true_and, and_true, AV.v.injEq, Value.int.injEq, ordV]
    intro n1 n2
    refine ⟨by omega, br_intro (fun h => ?_) (fun h => ⟨by omega, br_intro (fun h2 => ?_) (fun h2 => ?_)⟩)⟩
    all_goals simp only [bne_iff_ne, ne_eq, bne_eq_false_iff_eq] at *
    all_goals (repeat' split)
    all_goals (first | omega | (simp_all; done) | skip)
    all_goals (split at h <;> (first | omega | skip))
    all_goals (split at h <;> (first | omega | skip)))
theorem or_ok : HOk Try.prog 60 orH := HOk.of_look (enters_of (c := body Try.f60) Try.func60 rfl (by kernel_rfl)) fun rs args H K hk => by
  unfold orH at hk
  split at hk
  · rename_i id t q1 q2 q3 i n
    split at hk
    · rename_i m kid kt c2 c3 c4 c5 c6 c7 c8 own h1
      obtain ⟨rfl, hk⟩ := hk
      rw [nth_eq] at h1
      exact ⟨_, hk, fun w hw => ⟨[⟨n, .cells [.v (.int .i64 kid), .v (.int .i64 kt), c2, c3, c4, c5, c6, c7, c8] 81, false⟩], [.v (.int .i64 id), .agg [.v (.int .i64 t), .v (.int .i64 q1), .v (.int .i64 q2), .v (.int .i64 q3)], .ptr 0 n 0], holds_one (by have g := hw.all i _ h1; exact g), rfl, rfl, (ord_lc id t q1 q2 q3 n kid kt c2 c3 c4 c5 c6 c7 c8).mono fun z H' hz => by rw [hz]⟩⟩
    · exact hk.elim
  · exact hk.elim
end Go.Proofs.Ytjnehpljhnlbfaa
