/- Span: trees in memory. -/
import Derived.Test.YtjnehpljhnlbfaaA
import Derived.Test.YtjnehpljhnlbfaaY14
import Derived.Test.YtjnehpljhnlbfaaY13
namespace Go.Sp
open Go.Eng Go.Proofs.Ytjnehpljhnlbfaa

/-- A rectangle. -/
structure RC where
  t : Int
  l : Int
  b : Int
  r : Int

/-- A tree: where a knot lies, its number and rectangle, how high, the last row, both sides. -/
inductive PT where
  | leaf
  | node (n : Nat) (id : Int) (q : RC) (hi la : Int) (l r : PT)

def PT.root : PT → Option Addr
  | .leaf => none
  | .node n _ _ _ _ _ _ => some ⟨n, 0, none⟩
def PT.ht : PT → Int
  | .leaf => 0
  | .node _ _ _ h _ _ _ => h
def PT.bt : PT → Int
  | .leaf => 0
  | .node _ _ _ _ b _ _ => b

end Go.Sp
namespace Go.Eng
open Go Go.Sp Go.Proofs.Ytjnehpljhnlbfaa

/-- A knot in memory. -/
abbrev ndB (n : Nat) (id : Int) (q : RC) (pl pr : AV) (hi la : Int) : Blk := ⟨n, .cells [.v (.int .i64 id), .v (.int .i64 q.t), .v (.int .i64 q.l), .v (.int .i64 q.b), .v (.int .i64 q.r), pl, pr, .v (.int .i64 hi), .v (.int .i64 la)] 81, true⟩

def treeH : PT → HH
  | .leaf => []
  | .node n id q hi la l r => ndB n id q (.v (.pointer l.root)) (.v (.pointer r.root)) hi la :: (treeH l ++ treeH r)
def treeC (t : PT) (H0 : HH) : Prop := H0 = treeH t

theorem treeH_own : ∀ t : PT, allOwn (treeH t)
  | .leaf => fun b hb => (by cases hb)
  | .node n id q hi la l r => fun b hb => by
    rcases List.mem_cons.1 hb with rfl | hb
    · rfl
    · rcases List.mem_append.1 hb with hb | hb
      · exact treeH_own l b hb
      · exact treeH_own r b hb

abbrev trB (t : PT) (S : List Nat) : Blk := packB treeC 0 t S

theorem HoldsH.perm {H H' : HH} {w : World} (hp : H.Perm H') (h : HoldsH H w) : HoldsH H' w := by
  have h1 : H.Pairwise (fun b c => ∀ k ∈ b.nums, k ∉ c.nums) := by
    rw [List.pairwise_iff_getElem]
    intro i j hi hj hij
    exact h.apart i j _ _ (List.getElem?_eq_getElem hi) (List.getElem?_eq_getElem hj) (by omega)
  have h2 := (hp.pairwise_iff (fun {b c} hbc k hk hk2 => hbc k hk2 hk)).1 h1
  refine ⟨fun i b hi => ?_, fun i j b c hi hj hij k hk hk2 => ?_⟩
  · have := hp.mem_iff.2 (List.mem_of_getElem? hi)
    obtain ⟨q, hq⟩ := List.getElem?_of_mem this
    exact h.all q b hq
  · obtain ⟨hi', rfl⟩ := List.getElem?_eq_some_iff.1 hi
    obtain ⟨hj', rfl⟩ := List.getElem?_eq_some_iff.1 hj
    rw [List.pairwise_iff_getElem] at h2
    rcases Nat.lt_or_gt_of_ne hij with h3 | h3
    · exact h2 i j hi' hj' h3 k hk hk2
    · exact h2 j i hj' hi' h3 k hk2 hk
theorem To.perm {H H' : HH} {w : World} (hp : H.Perm H') (h : HoldsH H w) : To H H' w :=
  ⟨h.perm hp, fun i b hi k hk => by
    obtain ⟨q, hq⟩ := List.getElem?_of_mem (hp.mem_iff.2 (List.mem_of_getElem? hi))
    exact ⟨q, b, hq, hk, fun h => h⟩⟩

/-- A knot and its sides come into sight. -/
theorem tree_open {n : Nat} {id : Int} {q : RC} {hi la : Int} {l r : PT} {S : List Nat} {Hr : HH} {w : World} (hw : HoldsH (trB (.node n id q hi la l r) S :: Hr) w) :
    ∃ Sl Sr, To (trB (.node n id q hi la l r) S :: Hr) (ndB n id q (.v (.pointer l.root)) (.v (.pointer r.root)) hi la :: trB l Sl :: trB r Sr :: Hr) w := by
  obtain ⟨H0, g1, g2, g3, g4⟩ := To.unpack hw
  have g1 : H0 = treeH (.node n id q hi la l r) := g1
  subst g1
  have e0 : treeH (.node n id q hi la l r) ++ Hr = ndB n id q (.v (.pointer l.root)) (.v (.pointer r.root)) hi la :: (treeH l ++ (treeH r ++ Hr)) := by simp [treeH]
  rw [e0] at g4
  have p1 : (ndB n id q (.v (.pointer l.root)) (.v (.pointer r.root)) hi la :: (treeH l ++ (treeH r ++ Hr))).Perm (treeH l ++ (treeH r ++ ndB n id q (.v (.pointer l.root)) (.v (.pointer r.root)) hi la :: Hr)) := by
    rw [← List.append_assoc, ← List.append_assoc]
    exact List.perm_middle.symm
  have t1 := To.perm p1 g4.hp
  have t2 := To.pack (C := treeC) (x := l) (Hr := treeH r ++ ndB n id q (.v (.pointer l.root)) (.v (.pointer r.root)) hi la :: Hr) 0 rfl (treeH_own l) t1.hp
  have p2 : (trB l (numsAll (treeH l)) :: (treeH r ++ ndB n id q (.v (.pointer l.root)) (.v (.pointer r.root)) hi la :: Hr)).Perm (treeH r ++ trB l (numsAll (treeH l)) :: ndB n id q (.v (.pointer l.root)) (.v (.pointer r.root)) hi la :: Hr) := List.perm_middle.symm
  have t3 := To.perm p2 t2.hp
  have t4 := To.pack (C := treeC) (x := r) (Hr := trB l (numsAll (treeH l)) :: ndB n id q (.v (.pointer l.root)) (.v (.pointer r.root)) hi la :: Hr) 0 rfl (treeH_own r) t3.hp
  have l5 : LeH (trB r (numsAll (treeH r)) :: trB l (numsAll (treeH l)) :: ndB n id q (.v (.pointer l.root)) (.v (.pointer r.root)) hi la :: Hr) (ndB n id q (.v (.pointer l.root)) (.v (.pointer r.root)) hi la :: trB l (numsAll (treeH l)) :: trB r (numsAll (treeH r)) :: Hr) := ⟨fun w h => (To.perm ((List.Perm.swap ..).trans ((List.Perm.cons _ (List.Perm.swap ..)).trans (List.Perm.swap ..))) h).hp, fun i b hib k hk => by
    have pp : (trB r (numsAll (treeH r)) :: trB l (numsAll (treeH l)) :: ndB n id q (.v (.pointer l.root)) (.v (.pointer r.root)) hi la :: Hr).Perm (ndB n id q (.v (.pointer l.root)) (.v (.pointer r.root)) hi la :: trB l (numsAll (treeH l)) :: trB r (numsAll (treeH r)) :: Hr) := (List.Perm.swap ..).trans ((List.Perm.cons _ (List.Perm.swap ..)).trans (List.Perm.swap ..))
    obtain ⟨q', hq⟩ := List.getElem?_of_mem (pp.mem_iff.2 (List.mem_of_getElem? hib))
    exact ⟨q', b, hq, hk, fun h => h⟩⟩
  exact ⟨_, _, ((((g4.trans t1).trans t2).trans t3).trans t4).trans (l5.to t4.hp)⟩

theorem tr_lt {t : PT} {S : List Nat} {w : World} (h : (trB t S).c.holds w (trB t S).num) : ∃ H0, H0 = treeH t ∧ numsAll H0 = S ∧ HoldsH H0 w := by
  obtain ⟨H0, g1, g2, g3, g4⟩ := pack_open h
  exact ⟨H0, g1, g3, g4⟩

/-- A knot and its sides go out of sight. -/
theorem tree_close {n : Nat} {id : Int} {q : RC} {pl pr : AV} {hi la : Int} {l r : PT} {Sl Sr : List Nat} {Hr : HH} (hl : pl.den = .pointer l.root) (hr : pr.den = .pointer r.root) :
    LeH (ndB n id q pl pr hi la :: trB l Sl :: trB r Sr :: Hr) (trB (.node n id q hi la l r) (n :: (Sl ++ Sr)) :: Hr) := by
  refine ⟨fun w hw => ?_, fun i b hib k hk => ?_⟩
  · obtain ⟨Hl, rfl, el, hl0⟩ := tr_lt (hw.all 1 _ rfl)
    obtain ⟨Hq, rfl, er, hr0⟩ := tr_lt (hw.all 2 _ rfl)
    have h1 : HoldsH [ndB n id q (.v (.pointer l.root)) (.v (.pointer r.root)) hi la] w := holds_one (by
      have := hw.all 0 _ rfl
      show Held w n (denL _) 81
      have e : denL [.v (.int .i64 id), .v (.int .i64 q.t), .v (.int .i64 q.l), .v (.int .i64 q.b), .v (.int .i64 q.r), pl, pr, .v (.int .i64 hi), .v (.int .i64 la)] = denL [.v (.int .i64 id), .v (.int .i64 q.t), .v (.int .i64 q.l), .v (.int .i64 q.b), .v (.int .i64 q.r), .v (.pointer l.root), .v (.pointer r.root), .v (.int .i64 hi), .v (.int .i64 la)] := by
        simp only [denL, hl, hr, AV.den]
      rw [← e]; exact this)
    have a01 : ∀ k ∈ numsAll (treeH l), k ≠ n := fun k hk e => by
      rw [el] at hk
      exact hw.apart 0 1 _ _ rfl rfl (by decide) n (by simp [Blk.nums, Cont.nums]) (by rw [← e]; exact hk)
    have a02 : ∀ k ∈ numsAll (treeH r), k ≠ n := fun k hk e => by
      rw [er] at hk
      exact hw.apart 0 2 _ _ rfl rfl (by decide) n (by simp [Blk.nums, Cont.nums]) (by rw [← e]; exact hk)
    have a12 : ∀ k ∈ numsAll (treeH l), k ∉ numsAll (treeH r) := fun k hk hk2 => by
      rw [el] at hk; rw [er] at hk2
      exact hw.apart 1 2 _ _ rfl rfl (by decide) k hk hk2
    have h2 : HoldsH (treeH l ++ treeH r) w := hl0.join hr0 a12
    have h3 : HoldsH (treeH (.node n id q hi la l r)) w := h1.join h2 fun k hk hk2 => by
      have e1 : k = n := by simpa [numsAll, Blk.nums, Cont.nums] using hk
      have hk2 : k ∈ (treeH l ++ treeH r).flatMap Blk.nums := hk2
      rw [List.flatMap_append, List.mem_append] at hk2
      rcases hk2 with h | h
      · exact a01 k h e1
      · exact a02 k h e1
    have en : numsAll (treeH (.node n id q hi la l r)) = n :: (Sl ++ Sr) := by
      rw [← el, ← er]
      simp [treeH, numsAll, Blk.nums, Cont.nums]
    have h4 : HoldsH [trB (.node n id q hi la l r) (n :: (Sl ++ Sr))] w := holds_one (by rw [← en]; exact pack_close (C := treeC) (x := .node n id q hi la l r) rfl (treeH_own _) h3)
    have hR : HoldsH Hr w := (HoldsH.append (H := [_, _, _]) hw).2.1
    refine HoldsH.join (H := [trB (.node n id q hi la l r) (n :: (Sl ++ Sr))]) h4 hR fun k hk hk2 => ?_
    have hk : k ∈ n :: (Sl ++ Sr) := by simpa [numsAll, Blk.nums, Cont.nums, packC] using hk
    refine (HoldsH.append (H := [_, _, _]) hw).2.2 k ?_ hk2
    simp only [numsAll, List.flatMap_cons, List.flatMap_nil, List.append_nil]
    rcases List.mem_cons.1 hk with rfl | hk
    · exact List.mem_append_left _ (by simp [Blk.nums, Cont.nums])
    · rcases List.mem_append.1 hk with hk | hk
      · exact List.mem_append_right _ (List.mem_append_left _ hk)
      · exact List.mem_append_right _ (List.mem_append_right _ hk)
  · cases i with
    | zero =>
      cases hib
      have hk : k ∈ n :: (Sl ++ Sr) := hk
      rcases List.mem_cons.1 hk with rfl | hk
      · exact ⟨0, _, rfl, by simp [Blk.nums, Cont.nums], fun _ => rfl⟩
      · rcases List.mem_append.1 hk with hk | hk
        · exact ⟨1, _, rfl, hk, fun _ => rfl⟩
        · exact ⟨2, _, rfl, hk, fun _ => rfl⟩
    | succ i => exact ⟨i + 3, b, hib, hk, fun h => h⟩

end Go.Eng

