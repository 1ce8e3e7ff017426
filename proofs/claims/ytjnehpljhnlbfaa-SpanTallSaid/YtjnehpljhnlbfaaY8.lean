/- Lists in memory: what is known of them, as lists. -/
import Derived.Test.YtjnehpljhnlbfaaEngQ
import Derived.Test.YtjnehpljhnlbfaaEngN
import Derived.Test.YtjnehpljhnlbfaaEngR
namespace Go.Sp
open Go.Eng

def atI (l : List Int) (i : Nat) : Int := (l[i]?).getD 0
def atS (l : List ByteArray) (i : Nat) : ByteArray := (l[i]?).getD (ByteArray.mk #[])

theorem atI_cat (l m : List Int) (i : Nat) : atI (l ++ m) i = if i < l.length then atI l i else atI m (i - l.length) := by
  unfold atI
  rw [List.getElem?_append]
  split <;> rfl
theorem atI_out {l : List Int} {i : Nat} (h : l.length ≤ i) : atI l i = 0 := by
  unfold atI
  rw [List.getElem?_eq_none h]; rfl
theorem atS_cat (l m : List ByteArray) (i : Nat) : atS (l ++ m) i = if i < l.length then atS l i else atS m (i - l.length) := by
  unfold atS
  rw [List.getElem?_append]
  split <;> rfl
theorem atS_out {l : List ByteArray} {i : Nat} (h : l.length ≤ i) : atS l i = ByteArray.mk #[] := by
  unfold atS
  rw [List.getElem?_eq_none h]; rfl
theorem atI_get {l : List Int} {i : Nat} (h : i < l.length) : atI l i = l[i] := by
  unfold atI
  rw [List.getElem?_eq_getElem h]; rfl
theorem atS_get {l : List ByteArray} {i : Nat} (h : i < l.length) : atS l i = l[i] := by
  unfold atS
  rw [List.getElem?_eq_getElem h]; rfl

theorem listI_eq {l m : List Int} (hl : l.length = m.length) (h : ∀ i, i < l.length → atI l i = atI m i) : l = m := by
  refine List.ext_getElem hl fun i h1 h2 => ?_
  rw [← atI_get h1, ← atI_get h2, h i h1]
theorem listS_eq {l m : List ByteArray} (hl : l.length = m.length) (h : ∀ i, i < l.length → atS l i = atS m i) : l = m := by
  refine List.ext_getElem hl fun i h1 h2 => ?_
  rw [← atS_get h1, ← atS_get h2, h i h1]
end Go.Sp
namespace Go.Eng
open Go Go.Sp

/-- A list of numbers, or of texts, as a known block. -/
abbrev lI (n : Nat) (l : List Int) (S : List Nat) (own : Bool) : Blk := ⟨n, .lst 0 l.length [.ints .i64 (atI l)] S none, own⟩
abbrev lS (n : Nat) (l : List ByteArray) (S : List Nat) (own : Bool) : Blk := ⟨n, .lst 0 l.length [.strs (atS l)] S none, own⟩

theorem LeB.lst {n o N N' : Nat} {cs cs' : List Col} {S : List Nat} {wr wr' : Option (Nat × TypeId)} {own own' : Bool} (hl : cs'.length = cs.length) (hN : N' ≤ N) (ho : own' = true → own = true) (hw : wr' = none ∨ wr' = wr) (h : ∀ i, i < N' → rowOf cs' i = rowOf cs i) :
    LeB ⟨n, .lst o N cs S wr, own⟩ ⟨n, .lst o N' cs' S wr', own'⟩ := by
  refine ⟨fun k hk => hk, ho, fun w hw' => ?_⟩
  obtain ⟨h1, h2, h3⟩ := hw'
  refine ⟨h1, fun hn => ?_, fun cap ty e => ?_⟩
  · obtain ⟨g1, c, ty, fz, g2, g3⟩ := h2 (by omega)
    refine ⟨g1, c, ty, fz, g2, fun i hi j x hx => ?_⟩
    rw [h i hi] at hx
    rw [hl]
    exact g3 i (by omega) j x hx
  · rcases hw with rfl | rfl
    · cases e
    · obtain ⟨g1, g2, g3⟩ := h3 cap ty e
      refine ⟨g1, by omega, fun hc => ?_⟩
      rw [hl]
      exact g3 hc

theorem LeB.ints {n o N N' : Nat} {k : IntKind} {g g' : Nat → Int} {S : List Nat} {wr wr' : Option (Nat × TypeId)} {own own' : Bool} (hN : N' ≤ N) (ho : own' = true → own = true) (hw : wr' = none ∨ wr' = wr) (h : ∀ i, i < N' → g' i = g i) :
    LeB ⟨n, .lst o N [.ints k g] S wr, own⟩ ⟨n, .lst o N' [.ints k g'] S wr', own'⟩ := LeB.lst rfl hN ho hw fun i hi => by simp only [rowOf, Col.at, h i hi]
theorem LeB.strs {n o N N' : Nat} {g g' : Nat → ByteArray} {S : List Nat} {wr wr' : Option (Nat × TypeId)} {own own' : Bool} (hN : N' ≤ N) (ho : own' = true → own = true) (hw : wr' = none ∨ wr' = wr) (h : ∀ i, i < N' → g' i = g i) :
    LeB ⟨n, .lst o N [.strs g] S wr, own⟩ ⟨n, .lst o N' [.strs g'] S wr', own'⟩ := LeB.lst rfl hN ho hw fun i hi => by simp only [rowOf, Col.at, h i hi]

theorem LeB.rowsI {n c N : Nat} {k : IntKind} {g g' : Nat → Int} {ty : TypeId} {own own' : Bool} (hN : N ≤ c) (ho : own' = true → own = true) (h : ∀ i, i < N → g' i = g i) : LeB ⟨n, .rows c [.ints k g] ty, own⟩ ⟨n, .lst 0 N [.ints k g'] [n] none, own'⟩ := by
  refine ⟨fun k hk => hk, ho, fun w hw => ?_⟩
  have h1 := rows_lst hw hN
  exact (LeB.ints (own := true) (own' := true) (Nat.le_refl _) (fun h => h) (.inl rfl) h).2.2 w h1

/-- A slice of plain elements, opened, as one list. -/
theorem os_of_plain {w : World} {ks : List Kd} {al : Option Addr} {ll cl : Nat} (sz : Nat) (h : (∃ a cap, Value.slice al ll cl = .slice a 0 cap) ∨ ∃ (n o len cap : Nat) (V : Nat → Nat → Value), 0 < len ∧ len ≤ cap ∧ cap ≤ maxLen ∧ Value.slice al ll cl = .slice (some ⟨n, o, none⟩) len cap ∧ (Cont.view o len (viewCols V ks 0)).holds w n ∧
      ∀ i, i < len → ∀ (j : Nat) (k : Kd), ks[j]? = some k → k.ok (V i j)) :
    ∃ (a : Option Addr) (n o : Nat) (V : Nat → Nat → Value) (S : List Nat), al = (if ll = 0 then a else some ⟨n, o + 0 * sz, none⟩) ∧ ll ≤ 9223372036854775807 ∧ (Cont.lst o ll (viewCols V ks 0) S none).holds w n := by
  rcases h with ⟨a, cap, e⟩ | ⟨n, o, len, cap, V, hpos, hle, hcap, e, hv, _⟩
  · simp only [Value.slice.injEq] at e
    obtain ⟨rfl, rfl, rfl⟩ := e
    exact ⟨al, 0, 0, fun _ _ => undef, [], rfl, by omega, fun k hk => (by cases hk), fun hn => absurd hn (Nat.lt_irrefl _), fun cap t e => by cases e⟩
  · simp only [Value.slice.injEq] at e
    obtain ⟨rfl, rfl, rfl⟩ := e
    have h1 : maxLen = 9223372036854775807 := rfl
    refine ⟨none, n, o, V, [n], by rw [if_neg (by omega)]; simp, by omega, fun k hk => ?_, fun _ => ⟨List.mem_singleton.2 rfl, ?_⟩, fun cap t e => by cases e⟩
    · rw [List.mem_singleton] at hk
      subst hk
      obtain ⟨_, _, _, hc, _⟩ := hv
      exact lt_of_some hc
    · obtain ⟨c, ty, fz, hc, hcc⟩ := hv
      exact ⟨c, ty, fz, hc, hcc⟩

/-- A list without elements. -/
theorem lst_nil {w : World} {n o : Nat} {cs : List Col} {wr : Option (Nat × TypeId)} (hw : wr = none ∨ ∃ e, wr = some (0, e) ∧ o = 0) : (Cont.lst o 0 cs [] wr).holds w n :=
  ⟨fun k hk => (by cases hk), fun hn => absurd hn (Nat.lt_irrefl _), fun cap t e => by
    rcases hw with rfl | ⟨e', rfl, rfl⟩
    · cases e
    · cases e; exact ⟨rfl, Nat.le_refl _, fun h => absurd h (Nat.lt_irrefl _)⟩⟩

theorem LeH.more {H : HH} {b : Blk} (hn : b.nums = []) (hc : ∀ w, b.c.holds w b.num) : LeH H (H ++ [b]) := by
  have hin : ∀ (i : Nat) (d : Blk), (H ++ [b])[i]? = some d → H[i]? = some d ∨ d = b := by
    intro i d hi
    rw [List.getElem?_append] at hi
    split at hi
    · exact .inl hi
    · rename_i hlt
      by_cases he : i - H.length = 0
      · rw [he] at hi; simp at hi; exact .inr hi.symm
      · rw [List.getElem?_eq_none (by simp; omega)] at hi; cases hi
  refine ⟨fun w hw => ⟨fun i d hi => ?_, fun i j d e hi hj hij k hk => ?_⟩, fun i d hi k hk => ?_⟩
  · rcases hin i d hi with hi | rfl
    · exact hw.all i d hi
    · exact hc w
  · by_cases hd : d.nums = []
    · rw [hd] at hk; cases hk
    by_cases he : e.nums = []
    · rw [he]; simp
    rcases hin i d hi with hi | rfl
    · rcases hin j e hj with hj | rfl
      · exact hw.apart i j d e hi hj hij k hk
      · exact absurd hn he
    · exact absurd hn hd
  · rcases hin i d hi with hi | rfl
    · exact ⟨i, d, hi, hk, fun h => h⟩
    · rw [hn] at hk; cases hk

/-- A call that only reads, over some of the known blocks: all stay as they are. -/
theorem HOk.of_read {P : Program} {f : FuncId} {hd : Handler} (he : Enters P f) (h : ∀ rs args H K, hd rs args H K → ∃ (Hin : HH) (args' : List AV) (z : AV), LeH H Hin ∧ ownNums Hin = [] ∧ denL args' = denL args ∧ LC P f args' Hin (fun r _ => r.den = z.den) ∧ K (.ret z) H) : HOk P f hd := by
  refine ⟨he, fun rs _ args H K w hw hk => ?_⟩
  obtain ⟨Hin, args', z, h1, h2, h3, h4, h5⟩ := h rs args H K hk
  rw [← h3]
  refine (h4.calls w (h1.holds w hw)).mono fun e w' hq => ?_
  obtain ⟨r, H', rfl, hr, hx⟩ := hq
  have fr : Frm [] w w' := by have := hx.fr; rw [h2] at this; exact this
  exact ⟨z, H, by rw [hr], h5, ((HeapOk.enter hw).pure fr).toExt⟩

/-- A call that only reads known blocks, and makes others. -/
theorem Ext.make {H Hin H' N : HH} {w w' : World} (hh : HoldsH H w) (h2 : ∀ b ∈ Hin, b.own = false) (e : Ext Hin H' w w') (h3 : LeH H' N) (h4 : allOwn N) : Ext H (H ++ N) w w' := by
  have own0 : ownNums Hin = [] := by
    cases h : ownNums Hin with
    | nil => rfl
    | cons k l =>
      obtain ⟨i, b, hi, ho, _⟩ := mem_ownNums (H := Hin) (n := k) (by rw [h]; simp)
      rw [h2 b (List.mem_of_getElem? hi)] at ho; cases ho
  have fr : Frm [] w w' := by have := e.fr; rw [own0] at this; exact this
  have old : HoldsH H w' := ⟨fun i b hi => Cont.holds_block (hh.all i b hi) (fun k hk => fr.block k (Cont.holds_lt (hh.all i b hi) k hk) (by simp)), hh.apart⟩
  have hN := h3.holds _ e.hp
  have new : ∀ (i : Nat) (b : Blk), N[i]? = some b → ∀ k ∈ b.nums, w.heap.size ≤ k := fun i b hi k hk => by
    obtain ⟨j, d, hj, hd, ho⟩ := h3.src i b hi k hk
    rcases e.src j d hj k hd with ⟨m, x, hm, _, hxo⟩ | h
    · have := hxo (ho (h4 b (List.mem_of_getElem? hi)))
      rw [h2 x (List.mem_of_getElem? hm)] at this; cases this
    · exact h
  have cases_ : ∀ (i : Nat) (b : Blk), (H ++ N)[i]? = some b → (i < H.length ∧ H[i]? = some b) ∨ (H.length ≤ i ∧ N[i - H.length]? = some b) := by
    intro i b hi
    rw [List.getElem?_append] at hi
    split at hi
    · rename_i hl; exact .inl ⟨hl, hi⟩
    · exact .inr ⟨by omega, hi⟩
  refine ⟨⟨fun i b hi => ?_, fun i j b c hi hj hij k hk hk2 => ?_⟩, ⟨fr.os, fr.tape, fr.output, fr.size, fun k hk _ => fr.block k hk (by simp), fr.dr⟩, fun i b hi k hk => ?_⟩
  · rcases cases_ i b hi with ⟨_, h1⟩ | ⟨_, h1⟩
    · exact old.all i b h1
    · exact hN.all _ b h1
  · rcases cases_ i b hi with ⟨l1, h1⟩ | ⟨l1, h1⟩ <;> rcases cases_ j c hj with ⟨l2, h2⟩ | ⟨l2, h2⟩
    · exact hh.apart i j b c h1 h2 hij k hk hk2
    · have := Cont.holds_lt (hh.all i b h1) k hk
      have := new _ c h2 k hk2
      omega
    · have := Cont.holds_lt (hh.all j c h2) k hk2
      have := new _ b h1 k hk
      omega
    · exact hN.apart _ _ b c h1 h2 (by omega) k hk hk2
  · rcases cases_ i b hi with ⟨_, h1⟩ | ⟨_, h1⟩
    · exact .inl ⟨i, b, h1, hk, id⟩
    · exact .inr (new _ b h1 k hk)

theorem HOk.of_make {P : Program} {f : FuncId} {hd : Handler} (he : Enters P f) (h : ∀ rs args H K, hd rs args H K → ∃ (Hin : HH) (args' : List AV) (R : AV → HH → Prop), LeH H Hin ∧ (∀ b ∈ Hin, b.own = false) ∧ denL args' = denL args ∧ LC P f args' Hin R ∧ ∀ z H', R z H' → ∃ z' N, z'.den = z.den ∧ LeH H' N ∧ allOwn N ∧ K (.ret z') (H ++ N)) : HOk P f hd := by
  refine ⟨he, fun rs _ args H K w hw hk => ?_⟩
  obtain ⟨Hin, args', R, h1, h2, h3, h4, h5⟩ := h rs args H K hk
  rw [← h3]
  refine (h4.calls w (h1.holds w hw)).mono fun e w' hq => ?_
  obtain ⟨r, H', rfl, hr, hx⟩ := hq
  obtain ⟨z', N, g1, g2, g3, g4⟩ := h5 r H' hr
  exact ⟨z', H ++ N, by rw [g1], g4, Ext.make hw h2 hx g2 g3⟩
end Go.Eng

