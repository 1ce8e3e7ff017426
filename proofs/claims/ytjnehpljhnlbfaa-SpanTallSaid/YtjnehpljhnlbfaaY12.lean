/- Lists of data in memory: weaker words for them. -/
import Derived.Test.YtjnehpljhnlbfaaEngQ
import Derived.Test.YtjnehpljhnlbfaaEngN
import Derived.Test.YtjnehpljhnlbfaaEngR
namespace Go.Sp
open Go.Eng
/-- Whole numbers, texts, truths as data. -/
def intD : DT Int := ⟨fun n => [.v (.int .i64 n)], fun l => match l with | [.v (.int .i64 n)] => some n | _ => none, 0, 1⟩
def strD : DT ByteArray := ⟨fun s => [.v (.string s)], fun l => match l with | [.v (.string s)] => some s | _ => none, ByteArray.mk #[], 1⟩
end Go.Sp
namespace Go.Eng
open Go Go.Sp

theorem intD_ok : intD.Ok where
  len _ := rfl
  dec xs a h := by
    simp only [intD] at h ⊢
    split at h
    · cases h; rfl
    · cases h
  one _ := rfl
theorem strD_ok : strD.Ok where
  len _ := rfl
  dec xs a h := by
    simp only [strD] at h ⊢
    split at h
    · cases h; rfl
    · cases h
  one _ := rfl

/-- A list of data as a known block: to be read; one's own, to be written. -/
abbrev rD {α : Type} (d : DT α) (n o : Nat) (l : List α) (S : List Nat) (own : Bool) : Blk := ⟨n, .dl α d o l S none none, own⟩
abbrev wD {α : Type} (d : DT α) (n : Nat) (l : List α) (S : List Nat) (c : Nat) (ty : TypeId) : Blk := ⟨n, .dl α d 0 l S (some (c, ty)) none, true⟩

theorem LstH.sub {w : World} {n o N k : Nat} {row : Nat → List AV} {S : List Nat} {wr : Option (Nat × TypeId)} (h : LstH w n o N row k S wr) {r N' : Nat} {row' : Nat → List AV} (hr : r + N' ≤ N) (hrow : ∀ i, i < N' → denL (row' i) = denL (row (r + i))) : LstH w n (o + r * k) N' row' k S none := by
  obtain ⟨h1, h2, _⟩ := h
  refine ⟨h1, fun hn => ?_, fun cap ty e => (by cases e)⟩
  obtain ⟨g1, c, ty, fz, g2, g3⟩ := h2 (by omega)
  refine ⟨g1, c, ty, fz, g2, fun i hi j x hx => ?_⟩
  obtain ⟨y, hy, hyx⟩ := denL_get' (hrow i hi) hx
  have := g3 (r + i) (by omega) j y hy
  rw [hyx, ← this, Nat.add_mul]
  congr 1
  omega

theorem LstH.same {w : World} {n o N k : Nat} {row : Nat → List AV} {S : List Nat} {wr wr' : Option (Nat × TypeId)} (h : LstH w n o N row k S wr) {N' : Nat} {row' : Nat → List AV} (hr : N' ≤ N) (hw : wr' = none ∨ wr' = wr) (hrow : ∀ i, i < N' → denL (row' i) = denL (row i)) : LstH w n o N' row' k S wr' := by
  have h1 := h.sub (r := 0) (N' := N') (row' := row') (by omega) (fun i hi => by rw [Nat.zero_add]; exact hrow i hi)
  rw [Nat.zero_mul, Nat.add_zero] at h1
  refine ⟨h1.1, h1.2.1, fun cap ty e => ?_⟩
  rcases hw with rfl | rfl
  · cases e
  · obtain ⟨g1, g2, g3⟩ := h.2.2 cap ty e
    exact ⟨g1, by omega, g3⟩

section
variable {α β : Type} {d : DT α} {d' : DT β} {n o : Nat} {l : List α} {S : List Nat} {wr wr' : Option (Nat × TypeId)} {foc : Option (Nat × List AV)} {own own' : Bool}

theorem LeB.dl (ho : own' = true → own = true) (hw : wr' = none ∨ wr' = wr) : LeB ⟨n, .dl α d o l S wr foc, own⟩ ⟨n, .dl α d o l S wr' none, own'⟩ :=
  ⟨fun k hk => hk, ho, fun w h => ⟨h.1, fun f fv e => (by cases e), h.2.2.same (Nat.le_refl _) hw fun i hi => rfl⟩⟩

theorem LeB.dl_foc {f : Nat} {fv : List AV} (ho : own' = true → own = true) (hw : wr' = none ∨ wr' = wr) (h1 : fv.length = d.sz) (h2 : denL fv = denL (d.enc (dAt l d.z f))) : LeB ⟨n, .dl α d o l S wr foc, own⟩ ⟨n, .dl α d o l S wr' (some (f, fv)), own'⟩ :=
  ⟨fun k hk => hk, ho, fun w h => ⟨h.1, fun f fv e => (by cases e; exact ⟨h1, h2⟩), h.2.2.same (Nat.le_refl _) hw fun i hi => rfl⟩⟩

theorem LeB.dl_sub {r k : Nat} (ho : own' = true → own = true) (hr : r + k ≤ l.length) : LeB ⟨n, .dl α d o l S wr foc, own⟩ ⟨n, .dl α d (o + r * d.sz) ((l.drop r).take k) S none none, own'⟩ :=
  ⟨fun k hk => hk, ho, fun w h => ⟨h.1, fun f fv e => (by cases e), h.2.2.sub (by simp; omega) fun i hi => by rw [dAt_sub (by simp at hi; omega)]⟩⟩

/-- The same cells as other data. -/
theorem LeB.dl_as {l' : List β} (ok : d'.Ok) (ho : own' = true → own = true) (hw : wr' = none ∨ wr' = wr) (hs : d'.sz = d.sz) (hl : l'.length ≤ l.length) (he : ∀ i, i < l'.length → denL (d'.enc (dAt l' d'.z i)) = denL (d.enc (dAt l d.z i))) : LeB ⟨n, .dl α d o l S wr foc, own⟩ ⟨n, .dl β d' o l' S wr' none, own'⟩ :=
  ⟨fun k hk => hk, ho, fun w h => ⟨ok, fun f fv e => (by cases e), by rw [hs]; exact h.2.2.same hl hw he⟩⟩

theorem LeB.dl_of_lst {N : Nat} {cs : List Col} (ok : d.Ok) (ho : own' = true → own = true) (hs : cs.length = d.sz) (hl : l.length ≤ N) (he : ∀ i, i < l.length → denL (d.enc (dAt l d.z i)) = denL (rowOf cs i)) : LeB ⟨n, .lst o N cs S wr, own⟩ ⟨n, .dl α d o l S none none, own'⟩ := by
  refine ⟨fun k hk => hk, ho, fun w h => ⟨ok, fun f fv e => (by cases e), ?_⟩⟩
  obtain ⟨h1, h2, h3⟩ := h
  have : LstH w n o N (rowOf cs) cs.length S none := ⟨h1, h2, fun cap ty e => (by cases e)⟩
  rw [hs] at this
  exact this.same hl (.inl rfl) he

theorem LeB.lst_of_dl {cs : List Col} {N : Nat} (ho : own' = true → own = true) (hs : cs.length = d.sz) (hl : N ≤ l.length) (he : ∀ i, i < N → denL (rowOf cs i) = denL (d.enc (dAt l d.z i))) : LeB ⟨n, .dl α d o l S wr foc, own⟩ ⟨n, .lst o N cs S none, own'⟩ := by
  refine ⟨fun k hk => hk, ho, fun w h => ?_⟩
  have h1 := h.2.2.same (wr' := none) (row' := rowOf cs) hl (.inl rfl) he
  rw [← hs] at h1
  exact ⟨h1.1, h1.2.1, fun cap ty e => (by cases e)⟩

theorem LeB.dl_of_cells {xs : List AV} {ty : TypeId} (ok : d.Ok) (ho : own' = true → own = true) (he : ∀ i, i < l.length → denL (d.enc (dAt l d.z i)) = denL ((xs.drop (i * d.sz)).take d.sz)) : LeB ⟨n, .cells xs ty, own⟩ ⟨n, .dl α d 0 l [n] none none, own'⟩ := by
  refine ⟨fun k hk => hk, ho, fun w h => ⟨ok, fun f fv e => (by cases e), ?_, fun _ => ⟨List.mem_singleton.2 rfl, ?_⟩, fun cap ty e => (by cases e)⟩⟩
  · intro k hk; cases List.mem_singleton.1 hk; obtain ⟨_, h, _⟩ := h; exact lt_of_some h
  · obtain ⟨fz, h, _⟩ := h
    refine ⟨_, ty, fz, h, fun i hi j x hx => ?_⟩
    obtain ⟨y, hy, hyx⟩ := denL_get' (he i hi) hx
    have hj : j < d.sz := by
      rcases Nat.lt_or_ge j d.sz with h1 | h1
      · exact h1
      · rw [List.getElem?_eq_none (by rw [ok.len]; exact h1)] at hx; cases hx
    rw [List.getElem?_take, if_pos hj, List.getElem?_drop] at hy
    rw [hyx, Nat.zero_add]
    exact denL_get hy

/-- A row of elements as a list of data. -/
theorem LeB.dl_of_rows {N : Nat} {cs : List Col} {ty : TypeId} (ok : d.Ok) (ho : own' = true → own = true) (hs : cs.length = d.sz) (hl : l.length ≤ N) (he : ∀ i, i < l.length → denL (d.enc (dAt l d.z i)) = denL (rowOf cs i)) : LeB ⟨n, .rows N cs ty, own⟩ ⟨n, .dl α d 0 l [n] (some (N, ty)) none, own'⟩ := by
  refine ⟨fun k hk => hk, ho, fun w h => ⟨ok, fun f fv e => (by cases e), ?_⟩⟩
  obtain ⟨c, ⟨fz, h1, h2⟩, h3, h4⟩ := h
  refine ⟨fun k hk => by cases List.mem_singleton.1 hk; exact lt_of_some h1, fun _ => ⟨List.mem_singleton.2 rfl, c, ty, fz, h1, fun i hi j x hx => ?_⟩, fun cap ty' e => ?_⟩
  · obtain ⟨y, hy, hyx⟩ := denL_get' (he i hi) hx
    have := h4 i (by omega) j y hy
    rw [hyx, Nat.zero_add, ← hs]
    exact this
  · cases e
    exact ⟨rfl, hl, fun _ => ⟨List.mem_singleton.2 rfl, c, ⟨fz, h1, h2⟩, by rw [h3, hs]; exact Nat.le_refl _⟩⟩
end

/-- A call that only reads: what was known stays. -/
theorem LC.read {P : Program} {f : FuncId} {args : List AV} {H : HH} {Q : AV → Prop} (he : Enters P f) (h : ∀ w, HoldsH H w → ∃ (Hin : HH) (args' : List AV), HoldsH Hin w ∧ ownNums Hin = [] ∧ denL args' = denL args ∧ LC P f args' Hin (fun r _ => Q r)) : LC P f args H (fun r H' => Q r ∧ H' = H) :=
  ⟨he, fun w hw => by
    obtain ⟨Hin, args', h1, h2, h3, h4⟩ := h w hw
    rw [← h3]
    refine (h4.calls w h1).mono fun e w' hq => ?_
    obtain ⟨r, H', rfl, hr, hx⟩ := hq
    have fr : Frm [] w w' := by have := hx.fr; rw [h2] at this; exact this
    exact ⟨r, H, rfl, ⟨hr, rfl⟩, ((HeapOk.enter hw).pure fr).toExt⟩⟩

theorem LeH.of_bs {H H' : HH} (h : LeBs H H') : LeH H H' := by
  refine ⟨fun w hw => ⟨fun i c hi => ?_, fun i j b c hi hj hij k hk1 hk2 => ?_⟩, fun i c hi k hk => ?_⟩
  · obtain ⟨b, hb, h1, h2, h3⟩ := h.get hi
    exact h3 w (hw.all i b hb)
  · obtain ⟨b', hb', h1, _, _⟩ := h.get hi
    obtain ⟨c', hc', h2, _, _⟩ := h.get hj
    exact hw.apart i j b' c' hb' hc' hij k (h1 k hk1) (h2 k hk2)
  · obtain ⟨b, hb, h1, h2, _⟩ := h.get hi
    exact ⟨i, b, hb, h1 k hk, h2⟩
theorem LeBs.append : ∀ {H H' G G' : HH}, LeBs H H' → LeBs G G' → LeBs (H ++ G) (H' ++ G')
  | [], [], _, _, _, h => h
  | _ :: _, _ :: _, _, _, ⟨h1, h2⟩, h => ⟨h1, LeBs.append h2 h⟩
  | [], _ :: _, _, _, h, _ => h.elim
  | _ :: _, [], _, _, h, _ => h.elim
/-- Weaker words for the last block. -/
theorem LeH.last {H : HH} {b c : Blk} (h : LeB b c) : LeH (H ++ [b]) (H ++ [c]) := LeH.of_bs (LeBs.append (LeBs.refl H) ⟨h, trivial⟩)

/-- A contract over weaker words for what is known. -/
theorem LC.pre {P : Program} {f : FuncId} {args args' : List AV} {H H' : HH} {R : AV → HH → Prop} (h : LC P f args' H' R) (hl : LeH H H') (ha : denL args' = denL args) : LC P f args H R :=
  ⟨h.enters, fun w hw => by
    rw [← ha]
    exact (h.calls w (hl.holds w hw)).mono fun e w' hq => by
      obtain ⟨v, H2, rfl, hr, hx⟩ := hq
      exact ⟨v, H2, rfl, hr, Ext.of_to (hl.to hw) hx⟩⟩
end Go.Eng

