import Derived.Test.YthnkafambegbcaaA0
import Derived.Test.YthnkafambegbcaaY8
set_option linter.unusedVariables false
set_option linter.unusedSimpArgs false
namespace Go.Eng
open Go Go.Sp
theorem HoldsH.perm {H H' : HH} {w : World} (hp : H.Perm H') (h : HoldsH H w) : HoldsH H' w := by
  have h1 : H.Pairwise (fun b c => ∀ k ∈ b.nums, k ∉ c.nums) := by
    rw [List.pairwise_iff_getElem]
    intro i j hi hj hij
    exact h.apart i j _ _ (List.getElem?_eq_getElem hi) (List.getElem?_eq_getElem hj) (by omega)
  have h2 := (hp.pairwise_iff (fun {b c} hbc k hk hk2 => hbc k hk2 hk)).1 h1
  refine ⟨fun i b hi => ?_, fun i j b c hi hj hij k hk hk2 => ?_⟩
  · have := hp.mem_iff.2 (List.mem_of_getElem? hi)
    obtain ⟨q, hq⟩ := List.getElem?_of_mem this
    exact h.all q b hq
  · obtain ⟨hi', rfl⟩ := List.getElem?_eq_some_iff.1 hi
    obtain ⟨hj', rfl⟩ := List.getElem?_eq_some_iff.1 hj
    rw [List.pairwise_iff_getElem] at h2
    rcases Nat.lt_or_gt_of_ne hij with h3 | h3
    · exact h2 i j hi' hj' h3 k hk hk2
    · exact h2 j i hj' hi' h3 k hk2 hk
theorem To.perm {H H' : HH} {w : World} (hp : H.Perm H') (h : HoldsH H w) : To H H' w :=
  ⟨h.perm hp, fun i b hi k hk => by
    obtain ⟨q, hq⟩ := List.getElem?_of_mem (hp.mem_iff.2 (List.mem_of_getElem? hi))
    exact ⟨q, b, hq, hk, fun h => h⟩⟩
theorem To.next {H H1 H2 : HH} {w : World} (t : To H H1 w) (l : LeH H1 H2) : To H H2 w := t.trans (l.to t.hp)
theorem To.at {H H1 H2 : HH} {w : World} (t : To H H1 w) (is : List Nat) (hn : is.Nodup) (hb : LeBs (pickH H1 is) H2) : To H H2 w := t.next (leAt is hn hb)
end Go.Eng
namespace Go.Sp
open Go.Eng
structure GE where
  r : Int
  c : Int
  num : Nat
  born : Nat
  bs : Nat → Bool
  is : Nat → Int
def cel (i j : Int) : Nat := i.toNat * 16 + j.toNat
def cntB (bs : Nat → Bool) : Nat := (List.range 256).countP bs
theorem countP_upd {bs : Nat → Bool} {k : Nat} {b : Bool} (hne : bs k = !b) : ∀ (l : List Nat), l.Nodup → k ∈ l →
    ((l.countP (upd bs k b) : Nat) : Int) = l.countP bs + (if b then 1 else -1)
  | [], _, h => by simp at h
  | a :: l, hn, h => by
    obtain ⟨h1, h2⟩ := List.nodup_cons.1 hn
    by_cases ha : a = k
    · subst ha
      have : l.countP (upd bs a b) = l.countP bs := by
        apply List.countP_congr
        intro x hx
        have : x ≠ a := fun e => h1 (e ▸ hx)
        simp [upd, this]
      rw [List.countP_cons, List.countP_cons, this]
      cases b <;> simp [upd, hne] <;> omega
    · have hk : k ∈ l := by
        rcases List.mem_cons.1 h with e | e
        · exact absurd e.symm ha
        · exact e
      have ih := countP_upd hne l h2 hk
      rw [List.countP_cons, List.countP_cons]
      have : upd bs k b a = bs a := by simp [upd, ha]
      rw [this]
      push_cast
      omega
theorem cntB_set {bs : Nat → Bool} {k : Nat} (hk : k < 256) (h : bs k = false) : (cntB (upd bs k true) : Int) = cntB bs + 1 := by
  have := countP_upd (b := true) (by simpa using h) (List.range 256) List.nodup_range (List.mem_range.2 hk)
  simpa [cntB] using this
theorem cntB_clr {bs : Nat → Bool} {k : Nat} (hk : k < 256) (h : bs k = true) : (cntB (upd bs k false) : Int) = cntB bs - 1 := by
  have := countP_upd (b := false) (by simpa using h) (List.range 256) List.nodup_range (List.mem_range.2 hk)
  simp only [cntB]
  simp only [Bool.false_eq_true, if_false] at this
  omega
theorem cntB_zero {bs : Nat → Bool} (h : cntB bs = 0) {k : Nat} (hk : k < 256) : bs k = false := by
  have := List.countP_eq_zero.1 h k (List.mem_range.2 hk)
  simpa using this
theorem cntB_none : cntB (fun _ => false) = 0 := List.countP_eq_zero.2 (by simp)
theorem cntB_le (bs : Nat → Bool) : cntB bs ≤ 256 := by
  have := List.countP_le_length (p := bs) (l := List.range 256)
  simpa [cntB] using this
def GE.tell (e : GE) (o : Nat) : Option Int := if e.bs o then some (e.is (256 + o)) else none
structure GRep (es : List GE) (F : Int → Int → Option Int) : Prop where
  apart : ∀ (l1 : List GE) (e : GE) (l2 : List GE), es = l1 ++ e :: l2 → ∀ d ∈ l1 ++ l2, ¬ (d.r = e.r ∧ d.c = e.c)
  has : ∀ e ∈ es, ∀ i j : Int, 0 ≤ i → i < 16 → 0 ≤ j → j < 16 → F (e.r * 16 + i + 1) (e.c * 16 + j + 1) = e.tell (cel i j)
  hasnot : ∀ r c : Int, (∀ e ∈ es, ¬ (e.r = (r - 1) / 16 ∧ e.c = (c - 1) / 16)) → F r c = none
  cnt : ∀ e ∈ es, e.is 512 = cntB e.bs
def putF (F : Int → Int → Option Int) (r c : Int) (x : Option Int) : Int → Int → Option Int := fun r' c' => if r' = r ∧ c' = c then x else F r' c'
theorem cel_lt {i j : Int} (h1 : 0 ≤ i) (h2 : i < 16) (h3 : 0 ≤ j) (h4 : j < 16) : cel i j < 256 := by unfold cel; omega
theorem cel_inj {i j i' j' : Int} (h1 : 0 ≤ i) (h2 : i < 16) (h3 : 0 ≤ j) (h4 : j < 16) (h1' : 0 ≤ i') (h2' : i' < 16) (h3' : 0 ≤ j') (h4' : j' < 16) (h : cel i j = cel i' j') : i = i' ∧ j = j' := by
  unfold cel at h; omega
theorem GRep.get {es : List GE} {F : Int → Int → Option Int} (h : GRep es F) {e : GE} (he : e ∈ es) {r c : Int} (hr : e.r = (r - 1) / 16) (hc : e.c = (c - 1) / 16) :
    F r c = e.tell (cel ((r - 1) % 16) ((c - 1) % 16)) := by
  have := h.has e he ((r - 1) % 16) ((c - 1) % 16) (by omega) (by omega) (by omega) (by omega)
  rw [← this, hr, hc]
  congr 1 <;> omega
theorem GRep.turn {l1 l2 : List GE} {e e' : GE} {F : Int → Int → Option Int} (h : GRep (l1 ++ e :: l2) F) {r c : Int} (hr : e.r = (r - 1) / 16) (hc : e.c = (c - 1) / 16)
    (gr : e'.r = e.r) (gc : e'.c = e.c) (x : Option Int)
    (ht : ∀ o, o < 256 → e'.tell o = if o = cel ((r - 1) % 16) ((c - 1) % 16) then x else e.tell o) (hn : e'.is 512 = cntB e'.bs) : GRep (l1 ++ e' :: l2) (putF F r c x) := by
  have he : e ∈ l1 ++ e :: l2 := by simp
  have hoth : ∀ d ∈ l1 ++ l2, d ∈ l1 ++ e :: l2 := fun d hd => by
    simp only [List.mem_append, List.mem_cons] at hd ⊢
    rcases hd with h | h <;> simp [h]
  have hne := h.apart l1 e l2 rfl
  refine ⟨?_, ?_, ?_, ?_⟩
  · intro m1 d m2 hm q hq hb
    rcases List.append_eq_append_iff.1 hm with ⟨a, h1, h2⟩ | ⟨a, h1, h2⟩
    · cases a with
      | nil =>
        simp at h1 h2
        obtain ⟨rfl, rfl⟩ := h2
        subst h1
        exact hne q hq (by rw [← gr, ← gc]; exact hb)
      | cons y a =>
        simp only [List.cons_append, List.cons.injEq] at h2
        obtain ⟨rfl, h2⟩ := h2
        subst h1 h2
        have hd := hne d (by simp)
        simp only [List.append_assoc, List.cons_append, List.mem_append, List.mem_cons] at hq
        rcases hq with hq | rfl | hq | hq
        · exact h.apart (l1 ++ e :: a) d m2 (by simp) q (by simp [hq]) hb
        · exact hd (by rw [← gr, ← gc]; exact ⟨hb.1.symm, hb.2.symm⟩)
        · exact h.apart (l1 ++ e :: a) d m2 (by simp) q (by simp [hq]) hb
        · exact h.apart (l1 ++ e :: a) d m2 (by simp) q (by simp [hq]) hb
    · cases a with
      | nil =>
        simp at h1 h2
        obtain ⟨rfl, rfl⟩ := h2
        subst h1
        exact hne q hq (by rw [← gr, ← gc]; exact hb)
      | cons y a =>
        simp only [List.cons_append, List.cons.injEq] at h2
        obtain ⟨rfl, h2⟩ := h2
        subst h1 h2
        have hd := hne d (by simp)
        simp only [List.append_assoc, List.cons_append, List.mem_append, List.mem_cons] at hq
        rcases hq with hq | hq | rfl | hq
        · exact h.apart m1 d (a ++ e :: l2) (by simp) q (by simp [hq]) hb
        · exact h.apart m1 d (a ++ e :: l2) (by simp) q (by simp [hq]) hb
        · exact hd (by rw [← gr, ← gc]; exact ⟨hb.1.symm, hb.2.symm⟩)
        · exact h.apart m1 d (a ++ e :: l2) (by simp) q (by simp [hq]) hb
  · intro d hd i j i0 i1 j0 j1
    have hd : d ∈ l1 ++ l2 ∨ d = e' := by
      simp only [List.mem_append, List.mem_cons] at hd ⊢
      rcases hd with h | h | h <;> simp [h]
    rcases hd with hd | rfl
    · rw [← h.has d (hoth d hd) i j i0 i1 j0 j1]
      unfold putF
      rw [if_neg fun hb => hne d hd ⟨by omega, by omega⟩]
    · have := h.has e he i j i0 i1 j0 j1
      rw [gr, gc, ht _ (cel_lt i0 i1 j0 j1)]
      unfold putF
      by_cases hb : cel i j = cel ((r - 1) % 16) ((c - 1) % 16)
      · obtain ⟨b1, b2⟩ := cel_inj i0 i1 j0 j1 (by omega) (by omega) (by omega) (by omega) hb
        rw [if_pos hb, if_pos ⟨by omega, by omega⟩]
      · rw [if_neg hb, if_neg fun hq => hb (by rw [show i = (r - 1) % 16 by omega, show j = (c - 1) % 16 by omega]), this]
  · intro r' c' hall
    have h' := h.hasnot r' c' fun d hd => by
      simp only [List.mem_append, List.mem_cons] at hd
      rcases hd with hd | rfl | hd
      · exact hall d (by simp [hd])
      · rw [← gr, ← gc]; exact hall e' (by simp)
      · exact hall d (by simp [hd])
    have := hall e' (by simp)
    unfold putF
    rw [if_neg fun hb => this (by rw [gr, gc, hr, hc, hb.1, hb.2]; exact ⟨rfl, rfl⟩), h']
  · intro d hd
    simp only [List.mem_append, List.mem_cons] at hd
    rcases hd with hd | rfl | hd
    · exact h.cnt d (by simp [hd])
    · exact hn
    · exact h.cnt d (by simp [hd])
theorem GRep.more {es : List GE} {e : GE} {F : Int → Int → Option Int} (h : GRep es F) (hne : ∀ d ∈ es, ¬ (d.r = e.r ∧ d.c = e.c)) (hn : e.is 512 = cntB e.bs) (hb : ∀ o, o < 256 → e.bs o = false) : GRep (es ++ [e]) F := by
  refine ⟨?_, ?_, ?_, ?_⟩
  · intro m1 d m2 hm q hq hq'
    rcases List.eq_nil_or_concat m2 with rfl | ⟨m2', y, rfl⟩
    · have := List.append_inj' hm (by simp)
      obtain ⟨h1, h2⟩ := this
      simp only [List.cons.injEq, and_true] at h2
      subst h1 h2
      exact hne q (by simpa using hq) hq'
    · have hm' : es ++ [e] = (m1 ++ d :: m2') ++ [y] := by simpa using hm
      obtain ⟨h1, h2⟩ := List.append_inj' hm' (by simp)
      simp only [List.cons.injEq, and_true] at h2
      subst h1 h2
      simp only [List.mem_append, List.concat_eq_append, List.mem_singleton] at hq
      rcases hq with hq | hq | rfl
      · exact h.apart m1 d m2' rfl q (by simp [hq]) hq'
      · exact h.apart m1 d m2' rfl q (by simp [hq]) hq'
      · exact hne d (by simp) ⟨hq'.1.symm, hq'.2.symm⟩
  · intro d hd i j i0 i1 j0 j1
    simp only [List.mem_append, List.mem_singleton] at hd
    rcases hd with hd | rfl
    · exact h.has d hd i j i0 i1 j0 j1
    · rw [h.hasnot _ _ fun q hq hb' => hne q hq ⟨by omega, by omega⟩]
      simp [GE.tell, hb _ (cel_lt i0 i1 j0 j1)]
  · intro r c hall
    exact h.hasnot r c fun d hd => hall d (by simp [hd])
  · intro d hd
    simp only [List.mem_append, List.mem_singleton] at hd
    rcases hd with hd | rfl
    · exact h.cnt d hd
    · exact hn
theorem GRep.less {l1 l2 : List GE} {e : GE} {F : Int → Int → Option Int} (h : GRep (l1 ++ e :: l2) F) (hb : ∀ o, o < 256 → e.bs o = false) : GRep (l1 ++ l2) F := by
  have hoth : ∀ d ∈ l1 ++ l2, d ∈ l1 ++ e :: l2 := fun d hd => by
    simp only [List.mem_append, List.mem_cons] at hd ⊢
    rcases hd with h | h <;> simp [h]
  refine ⟨?_, fun d hd => h.has d (hoth d hd), ?_, fun d hd => h.cnt d (hoth d hd)⟩
  · intro m1 d m2 hm q hq
    rcases List.append_eq_append_iff.1 hm with ⟨a, h1, h2⟩ | ⟨a, h1, h2⟩
    · subst h1 h2
      exact h.apart (l1 ++ e :: a) d m2 (by simp) q (by
        simp only [List.mem_append, List.mem_cons] at hq ⊢
        rcases hq with (h | h) | h <;> simp [h])
    · cases a with
      | nil =>
        simp at h1 h2
        subst h1 h2
        exact h.apart (l1 ++ [e]) d m2 (by simp) q (by
          simp only [List.mem_append, List.mem_cons] at hq ⊢
          rcases hq with h | h <;> simp [h])
      | cons y a =>
        simp only [List.cons_append, List.cons.injEq] at h2
        obtain ⟨rfl, h2⟩ := h2
        subst h1 h2
        exact h.apart m1 d (a ++ e :: l2) (by simp) q (by
          simp only [List.mem_append, List.mem_cons] at hq ⊢
          rcases hq with h | h | h <;> simp [h])
  · intro r c hall
    by_cases hq : e.r = (r - 1) / 16 ∧ e.c = (c - 1) / 16
    · rw [h.get (by simp) hq.1 hq.2]
      simp [GE.tell, hb _ (cel_lt (i := (r - 1) % 16) (j := (c - 1) % 16) (by omega) (by omega) (by omega) (by omega))]
    · exact h.hasnot r c fun d hd => by
        simp only [List.mem_append, List.mem_cons] at hd
        rcases hd with hd | rfl | hd
        · exact hall d (by simp [hd])
        · exact hq
        · exact hall d (by simp [hd])
structure FulO (F : Int → Int → Option Int) (m : Nat) : Prop where
  h : ∀ r c, F r c ≠ .none ↔ ∃ k : Nat, k < m ∧ r = 1 + ((k / 50 : Nat) : Int) ∧ c = 1 + ((k % 50 : Nat) : Int) * 300
theorem FulO.zero : FulO (fun _ _ => .none) 0 := ⟨by simp⟩
theorem FulO.free {F : Int → Int → Option Int} {m i : Nat} (h : FulO F m) (hi : m ≤ i) : F (1 + ((i / 50 : Nat) : Int)) (1 + ((i % 50 : Nat) : Int) * 300) = .none := by
  by_cases hn : F (1 + ((i / 50 : Nat) : Int)) (1 + ((i % 50 : Nat) : Int) * 300) = .none
  · exact hn
  · obtain ⟨k, hk, h1, h2⟩ := (h.h _ _).1 hn
    omega
theorem FulO.step {F : Int → Int → Option Int} {m : Nat} (h : FulO F m) (x : Int) : FulO (putF F (1 + ((m / 50 : Nat) : Int)) (1 + ((m % 50 : Nat) : Int) * 300) (some x)) (m + 1) := ⟨fun r c => by
  unfold putF
  by_cases hb : r = 1 + ((m / 50 : Nat) : Int) ∧ c = 1 + ((m % 50 : Nat) : Int) * 300
  · rw [if_pos hb]
    exact ⟨fun _ => ⟨m, by omega, hb.1, hb.2⟩, fun _ => by simp⟩
  · rw [if_neg hb, h.h]
    constructor
    · rintro ⟨k, hk, h1, h2⟩; exact ⟨k, by omega, h1, h2⟩
    · rintro ⟨k, hk, h1, h2⟩
      exact ⟨k, by
        rcases Nat.lt_or_ge k m with h | h
        · exact h
        · have : k = m := by omega
          subst this
          exact absurd ⟨h1, h2⟩ hb, h1, h2⟩⟩
theorem FulO.one {F : Int → Int → Option Int} {m : Nat} (h : FulO F m) (hm : 0 < m) : F 1 1 ≠ .none := (h.h 1 1).2 ⟨0, hm, by simp, by simp⟩
theorem FulO.far {F : Int → Int → Option Int} {m : Nat} (h : FulO F m) (hm : m ≤ 5000) : F 1048576 16384 = .none := by
  by_cases hn : F 1048576 16384 = .none
  · exact hn
  · obtain ⟨k, hk, h1, h2⟩ := (h.h _ _).1 hn
    omega
theorem FulO.nine {F : Int → Int → Option Int} {m : Nat} (h : FulO F m) : F 9 9 = .none := by
  by_cases hn : F 9 9 = .none
  · exact hn
  · obtain ⟨k, hk, h1, h2⟩ := (h.h _ _).1 hn
    omega
theorem GRep.none : GRep [] (fun _ _ => .none) := ⟨fun l1 e l2 h => by simp at h, by simp, by simp, by simp⟩
end Go.Sp
namespace Go.Sp
structure GV where
  n : Nat
  mn : Nat
  most : Int
  cnt : Int
  es : List GE
  clock : Nat
  F : Int → Int → Option Int
def sumB (es : List GE) : Nat := (es.map fun e => cntB e.bs).sum
theorem sumB_mid (l1 l2 : List GE) (e : GE) : sumB (l1 ++ e :: l2) = sumB (l1 ++ l2) + cntB e.bs := by
  simp only [sumB, List.map_append, List.map_cons, List.sum_append, List.sum_cons]; omega
structure GV.ok (g : GV) : Prop where
  rep : GRep g.es g.F
  brn : (g.es.map (·.born)).Nodup
  clk : ∀ e ∈ g.es, e.born < g.clock
  most0 : 0 ≤ g.most
  most1 : g.most ≤ 4096
  cnt1 : g.cnt ≤ 4096
  sum : g.cnt = (sumB g.es : Nat)
end Go.Sp
namespace Go.Eng
open Go Go.Sp Go.Proofs.Ythnkafambegbcaa
structure GK where
  r : Int
  c : Int
  num : Nat
def kyG (a : GK) : AV := .agg [i6 a.r, i6 a.c]
def vlG (k : Nat) (a : GK) : AV := .ptr k a.num 0
def mkG (k : Nat) (key v : AV) : Option GK :=
  match key, v with
  | .agg [.v (.int .i64 r), .v (.int .i64 c)], .ptr j n 0 => (match Nat.beq j k with | true => some ⟨r, c, n⟩ | false => none)
  | _, _ => none
theorem mkG_eq {j : Nat} {k v : AV} {a : GK} (h : mkG j k v = some a) : kyG a = k ∧ vlG j a = v := by
  unfold mkG at h
  split at h
  · split at h
    · rename_i hb
      cases h
      exact ⟨rfl, by rw [Nat.eq_of_beq_eq_true hb]; rfl⟩
    · cases h
  · cases h
def entG (e : GE) : GK × Nat := (⟨e.r, e.c, e.num⟩, e.born)
abbrev grB (g : GV) (m : AV) : Blk := ⟨g.n, .cells [i6 g.most, i6 g.cnt, m] 57, true⟩
abbrev gmB (k mn : Nat) (es : List (GK × Nat)) (clock : Nat) : Blk := ⟨mn, .mape GK kyG (vlG k) (mkG k) es clock, true⟩
theorem gm_le (j k mn : Nat) (es : List (GK × Nat)) (clock : Nat) : LeB (gmB j mn es clock) (gmB k mn es clock) :=
  ⟨fun _ h => h, fun h => h, fun w h => ⟨by have := h.1; simpa only [mapDs, vlG, AV.den] using this, h.2.1, h.2.2.1, fun _ _ _ h => mkG_eq h⟩⟩
abbrev bkB (e : GE) : Blk := ⟨e.num, .mix 256 513 e.bs e.is 84, true⟩
def bksC (es : List GE) (H0 : HH) : Prop := H0 = es.map bkB
abbrev bksB (es : List GE) (S : List Nat) : Blk := packB bksC 0 es S
def grC (g : GV) (H0 : HH) : Prop := g.ok ∧ ∃ S, H0 = [bksB g.es S, grB g (.v (.map (some g.mn))), gmB 3 g.mn (g.es.map entG) g.clock]
abbrev gridB (g : GV) (S : List Nat) : Blk := packB grC g.n g S
theorem grC_own (g : GV) (H0 : HH) (h : grC g H0) : allOwn H0 := by
  obtain ⟨_, S, rfl⟩ := h
  intro b hb
  simp at hb
  rcases hb with rfl | rfl | rfl <;> rfl
theorem bks_own (es : List GE) : allOwn (es.map bkB) := fun b hb => by
  obtain ⟨e, _, rfl⟩ := List.mem_map.1 hb; rfl
theorem bks_open {l1 l2 : List GE} {e : GE} {S : List Nat} {Hr : HH} {w : World} (hw : HoldsH (bksB (l1 ++ e :: l2) S :: Hr) w) :
    ∃ S', To (bksB (l1 ++ e :: l2) S :: Hr) (bksB (l1 ++ l2) S' :: bkB e :: Hr) w := by
  obtain ⟨H0, h1, h2, h3, t1⟩ := To.unpack hw
  have h1 : H0 = (l1 ++ e :: l2).map bkB := h1
  subst h1
  have t2 : To ((l1 ++ e :: l2).map bkB ++ Hr) ((l1 ++ l2).map bkB ++ (bkB e :: Hr)) w := by
    refine To.perm ?_ t1.hp
    simp only [List.map_append, List.map_cons, List.append_assoc, List.cons_append]
    refine List.Perm.append_left _ ?_
    exact (List.perm_middle (a := bkB e) (l₁ := l2.map bkB) (l₂ := Hr)).symm
  exact ⟨_, (t1.trans t2).trans (To.pack 0 (show bksC (l1 ++ l2) ((l1 ++ l2).map bkB) from rfl) (bks_own _) t2.hp)⟩
theorem bks_close {l1 l2 : List GE} {e : GE} {S : List Nat} {Hr : HH} {w : World} (hw : HoldsH (bksB (l1 ++ l2) S :: bkB e :: Hr) w) :
    ∃ S', To (bksB (l1 ++ l2) S :: bkB e :: Hr) (bksB (l1 ++ e :: l2) S' :: Hr) w := by
  obtain ⟨H0, h1, h2, h3, t1⟩ := To.unpack hw
  have h1 : H0 = (l1 ++ l2).map bkB := h1
  subst h1
  have t2 : To ((l1 ++ l2).map bkB ++ (bkB e :: Hr)) ((l1 ++ e :: l2).map bkB ++ Hr) w := by
    refine To.perm ?_ t1.hp
    simp only [List.map_append, List.map_cons, List.append_assoc, List.cons_append]
    refine List.Perm.append_left _ ?_
    exact List.perm_middle (a := bkB e) (l₁ := l2.map bkB) (l₂ := Hr)
  exact ⟨_, (t1.trans t2).trans (To.pack 0 (show bksC (l1 ++ e :: l2) ((l1 ++ e :: l2).map bkB) from rfl) (bks_own _) t2.hp)⟩
end Go.Eng
