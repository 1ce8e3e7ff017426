import Derived.Test.YthnkafambegbcaaEngQ
import Derived.Test.YthnkafambegbcaaEngN
import Derived.Test.YthnkafambegbcaaEngR
namespace Go.Sp
open Go.Eng
def atI (l : List Int) (i : Nat) : Int := (l[i]?).getD 0
def atS (l : List ByteArray) (i : Nat) : ByteArray := (l[i]?).getD (ByteArray.mk #[])
theorem atI_cat (l m : List Int) (i : Nat) : atI (l ++ m) i = if i < l.length then atI l i else atI m (i - l.length) := by
  unfold atI
  rw [List.getElem?_append]
  split <;> rfl
theorem atI_out {l : List Int} {i : Nat} (h : l.length ≤ i) : atI l i = 0 := by
  unfold atI
  rw [List.getElem?_eq_none h]; rfl
theorem atS_cat (l m : List ByteArray) (i : Nat) : atS (l ++ m) i = if i < l.length then atS l i else atS m (i - l.length) := by
  unfold atS
  rw [List.getElem?_append]
  split <;> rfl
theorem atS_out {l : List ByteArray} {i : Nat} (h : l.length ≤ i) : atS l i = ByteArray.mk #[] := by
  unfold atS
  rw [List.getElem?_eq_none h]; rfl
theorem atI_get {l : List Int} {i : Nat} (h : i < l.length) : atI l i = l[i] := by
  unfold atI
  rw [List.getElem?_eq_getElem h]; rfl
theorem atS_get {l : List ByteArray} {i : Nat} (h : i < l.length) : atS l i = l[i] := by
  unfold atS
  rw [List.getElem?_eq_getElem h]; rfl
theorem listI_eq {l m : List Int} (hl : l.length = m.length) (h : ∀ i, i < l.length → atI l i = atI m i) : l = m := by
  refine List.ext_getElem hl fun i h1 h2 => ?_
  rw [← atI_get h1, ← atI_get h2, h i h1]
theorem listS_eq {l m : List ByteArray} (hl : l.length = m.length) (h : ∀ i, i < l.length → atS l i = atS m i) : l = m := by
  refine List.ext_getElem hl fun i h1 h2 => ?_
  rw [← atS_get h1, ← atS_get h2, h i h1]
end Go.Sp
namespace Go.Eng
open Go Go.Sp
abbrev lI (n : Nat) (l : List Int) (S : List Nat) (own : Bool) : Blk := ⟨n, .lst 0 l.length [.ints .i64 (atI l)] S none, own⟩
abbrev lS (n : Nat) (l : List ByteArray) (S : List Nat) (own : Bool) : Blk := ⟨n, .lst 0 l.length [.strs (atS l)] S none, own⟩
theorem LeB.lst {n o N N' : Nat} {cs cs' : List Col} {S : List Nat} {wr wr' : Option (Nat × TypeId)} {own own' : Bool} (hl : cs'.length = cs.length) (hN : N' ≤ N) (ho : own' = true → own = true) (hw : wr' = none ∨ wr' = wr) (h : ∀ i, i < N' → rowOf cs' i = rowOf cs i) :
    LeB ⟨n, .lst o N cs S wr, own⟩ ⟨n, .lst o N' cs' S wr', own'⟩ := by
  refine ⟨fun k hk => hk, ho, fun w hw' => ?_⟩
  obtain ⟨h1, h2, h3⟩ := hw'
  refine ⟨h1, fun hn => ?_, fun cap ty e => ?_⟩
  · obtain ⟨g1, c, ty, fz, g2, g3⟩ := h2 (by omega)
    refine ⟨g1, c, ty, fz, g2, fun i hi j x hx => ?_⟩
    rw [h i hi] at hx
    rw [hl]
    exact g3 i (by omega) j x hx
  · rcases hw with rfl | rfl
    · cases e
    · obtain ⟨g1, g2, g3⟩ := h3 cap ty e
      refine ⟨g1, by omega, fun hc => ?_⟩
      rw [hl]
      exact g3 hc
theorem LeB.ints {n o N N' : Nat} {k : IntKind} {g g' : Nat → Int} {S : List Nat} {wr wr' : Option (Nat × TypeId)} {own own' : Bool} (hN : N' ≤ N) (ho : own' = true → own = true) (hw : wr' = none ∨ wr' = wr) (h : ∀ i, i < N' → g' i = g i) :
    LeB ⟨n, .lst o N [.ints k g] S wr, own⟩ ⟨n, .lst o N' [.ints k g'] S wr', own'⟩ := LeB.lst rfl hN ho hw fun i hi => by simp only [rowOf, Col.at, h i hi]
theorem LeB.strs {n o N N' : Nat} {g g' : Nat → ByteArray} {S : List Nat} {wr wr' : Option (Nat × TypeId)} {own own' : Bool} (hN : N' ≤ N) (ho : own' = true → own = true) (hw : wr' = none ∨ wr' = wr) (h : ∀ i, i < N' → g' i = g i) :
    LeB ⟨n, .lst o N [.strs g] S wr, own⟩ ⟨n, .lst o N' [.strs g'] S wr', own'⟩ := LeB.lst rfl hN ho hw fun i hi => by simp only [rowOf, Col.at, h i hi]
theorem LeB.rowsI {n c N : Nat} {k : IntKind} {g g' : Nat → Int} {ty : TypeId} {own own' : Bool} (hN : N ≤ c) (ho : own' = true → own = true) (h : ∀ i, i < N → g' i = g i) : LeB ⟨n, .rows c [.ints k g] ty, own⟩ ⟨n, .lst 0 N [.ints k g'] [n] none, own'⟩ := by
  refine ⟨fun k hk => hk, ho, fun w hw => ?_⟩
  have h1 := rows_lst hw hN
  exact (LeB.ints (own := true) (own' := true) (Nat.le_refl _) (fun h => h) (.inl rfl) h).2.2 w h1
theorem os_of_plain {w : World} {ks : List Kd} {al : Option Addr} {ll cl : Nat} (sz : Nat) (h : (∃ a cap, Value.slice al ll cl = .slice a 0 cap) ∨ ∃ (n o len cap : Nat) (V : Nat → Nat → Value), 0 < len ∧ len ≤ cap ∧ cap ≤ maxLen ∧ Value.slice al ll cl = .slice (some ⟨n, o, none⟩) len cap ∧ (Cont.view o len (viewCols V ks 0)).holds w n ∧
      ∀ i, i < len → ∀ (j : Nat) (k : Kd), ks[j]? = some k → k.ok (V i j)) :
    ∃ (a : Option Addr) (n o : Nat) (V : Nat → Nat → Value) (S : List Nat), al = (if ll = 0 then a else some ⟨n, o + 0 * sz, none⟩) ∧ ll ≤ 9223372036854775807 ∧ (Cont.lst o ll (viewCols V ks 0) S none).holds w n := by
  rcases h with ⟨a, cap, e⟩ | ⟨n, o, len, cap, V, hpos, hle, hcap, e, hv, _⟩
  · simp only [Value.slice.injEq] at e
    obtain ⟨rfl, rfl, rfl⟩ := e
    exact ⟨al, 0, 0, fun _ _ => undef, [], rfl, by omega, fun k hk => (by cases hk), fun hn => absurd hn (Nat.lt_irrefl _), fun cap t e => by cases e⟩
  · simp only [Value.slice.injEq] at e
    obtain ⟨rfl, rfl, rfl⟩ := e
    have h1 : maxLen = 9223372036854775807 := rfl
    refine ⟨none, n, o, V, [n], by rw [if_neg (by omega)]; simp, by omega, fun k hk => ?_, fun _ => ⟨List.mem_singleton.2 rfl, ?_⟩, fun cap t e => by cases e⟩
    · rw [List.mem_singleton] at hk
      subst hk
      obtain ⟨_, _, _, hc, _⟩ := hv
      exact lt_of_some hc
    · obtain ⟨c, ty, fz, hc, hcc⟩ := hv
      exact ⟨c, ty, fz, hc, hcc⟩
theorem lst_nil {w : World} {n o : Nat} {cs : List Col} {wr : Option (Nat × TypeId)} (hw : wr = none ∨ ∃ e, wr = some (0, e) ∧ o = 0) : (Cont.lst o 0 cs [] wr).holds w n :=
  ⟨fun k hk => (by cases hk), fun hn => absurd hn (Nat.lt_irrefl _), fun cap t e => by
    rcases hw with rfl | ⟨e', rfl, rfl⟩
    · cases e
    · cases e; exact ⟨rfl, Nat.le_refl _, fun h => absurd h (Nat.lt_irrefl _)⟩⟩
theorem LeH.more {H : HH} {b : Blk} (hn : b.nums = []) (hc : ∀ w, b.c.holds w b.num) : LeH H (H ++ [b]) := by
  have hin : ∀ (i : Nat) (d : Blk), (H ++ [b])[i]? = some d → H[i]? = some d ∨ d = b := by
    intro i d hi
    rw [List.getElem?_append] at hi
    split at hi
    · exact .inl hi
    · rename_i hlt
      by_cases he : i - H.length = 0
      · rw [he] at hi; simp at hi; exact .inr hi.symm
      · rw [List.getElem?_eq_none (by simp; omega)] at hi; cases hi
  refine ⟨fun w hw => ⟨fun i d hi => ?_, fun i j d e hi hj hij k hk => ?_⟩, fun i d hi k hk => ?_⟩
  · rcases hin i d hi with hi | rfl
    · exact hw.all i d hi
    · exact hc w
  · by_cases hd : d.nums = []
    · rw [hd] at hk; cases hk
    by_cases he : e.nums = []
    · rw [he]; simp
    rcases hin i d hi with hi | rfl
    · rcases hin j e hj with hj | rfl
      · exact hw.apart i j d e hi hj hij k hk
      · exact absurd hn he
    · exact absurd hn hd
  · rcases hin i d hi with hi | rfl
    · exact ⟨i, d, hi, hk, fun h => h⟩
    · rw [hn] at hk; cases hk
theorem HOk.of_read {P : Program} {f : FuncId} {hd : Handler} (he : Enters P f) (h : ∀ rs args H K, hd rs args H K → ∃ (Hin : HH) (args' : List AV) (z : AV), LeH H Hin ∧ ownNums Hin = [] ∧ denL args' = denL args ∧ LC P f args' Hin (fun r _ => r.den = z.den) ∧ K (.ret z) H) : HOk P f hd := by
  refine ⟨he, fun rs _ args H K w hw hk => ?_⟩
  obtain ⟨Hin, args', z, h1, h2, h3, h4, h5⟩ := h rs args H K hk
  rw [← h3]
  refine (h4.calls w (h1.holds w hw)).mono fun e w' hq => ?_
  obtain ⟨r, H', rfl, hr, hx⟩ := hq
  have fr : Frm [] w w' := by have := hx.fr; rw [h2] at this; exact this
  exact ⟨z, H, by rw [hr], h5, ((HeapOk.enter hw).pure fr).toExt⟩
theorem Ext.make {H Hin H' N : HH} {w w' : World} (hh : HoldsH H w) (h2 : ∀ b ∈ Hin, b.own = false) (e : Ext Hin H' w w') (h3 : LeH H' N) (h4 : allOwn N) : Ext H (H ++ N) w w' := by
  have own0 : ownNums Hin = [] := by
    cases h : ownNums Hin with
    | nil => rfl
    | cons k l =>
      obtain ⟨i, b, hi, ho, _⟩ := mem_ownNums (H := Hin) (n := k) (by rw [h]; simp)
      rw [h2 b (List.mem_of_getElem? hi)] at ho; cases ho
  have fr : Frm [] w w' := by have := e.fr; rw [own0] at this; exact this
  have old : HoldsH H w' := ⟨fun i b hi => Cont.holds_block (hh.all i b hi) (fun k hk => fr.block k (Cont.holds_lt (hh.all i b hi) k hk) (by simp)), hh.apart⟩
  have hN := h3.holds _ e.hp
  have new : ∀ (i : Nat) (b : Blk), N[i]? = some b → ∀ k ∈ b.nums, w.heap.size ≤ k := fun i b hi k hk => by
    obtain ⟨j, d, hj, hd, ho⟩ := h3.src i b hi k hk
    rcases e.src j d hj k hd with ⟨m, x, hm, _, hxo⟩ | h
    · have := hxo (ho (h4 b (List.mem_of_getElem? hi)))
      rw [h2 x (List.mem_of_getElem? hm)] at this; cases this
    · exact h
  have cases_ : ∀ (i : Nat) (b : Blk), (H ++ N)[i]? = some b → (i < H.length ∧ H[i]? = some b) ∨ (H.length ≤ i ∧ N[i - H.length]? = some b) := by
    intro i b hi
    rw [List.getElem?_append] at hi
    split at hi
    · rename_i hl; exact .inl ⟨hl, hi⟩
    · exact .inr ⟨by omega, hi⟩
  refine ⟨⟨fun i b hi => ?_, fun i j b c hi hj hij k hk hk2 => ?_⟩, ⟨fr.os, fr.tape, fr.output, fr.size, fun k hk _ => fr.block k hk (by simp), fr.dr⟩, fun i b hi k hk => ?_⟩
  · rcases cases_ i b hi with ⟨_, h1⟩ | ⟨_, h1⟩
    · exact old.all i b h1
    · exact hN.all _ b h1
  · rcases cases_ i b hi with ⟨l1, h1⟩ | ⟨l1, h1⟩ <;> rcases cases_ j c hj with ⟨l2, h2⟩ | ⟨l2, h2⟩
    · exact hh.apart i j b c h1 h2 hij k hk hk2
    · have := Cont.holds_lt (hh.all i b h1) k hk
      have := new _ c h2 k hk2
      omega
    · have := Cont.holds_lt (hh.all j c h2) k hk2
      have := new _ b h1 k hk
      omega
    · exact hN.apart _ _ b c h1 h2 (by omega) k hk hk2
  · rcases cases_ i b hi with ⟨_, h1⟩ | ⟨_, h1⟩
    · exact .inl ⟨i, b, h1, hk, id⟩
    · exact .inr (new _ b h1 k hk)
theorem HOk.of_make {P : Program} {f : FuncId} {hd : Handler} (he : Enters P f) (h : ∀ rs args H K, hd rs args H K → ∃ (Hin : HH) (args' : List AV) (R : AV → HH → Prop), LeH H Hin ∧ (∀ b ∈ Hin, b.own = false) ∧ denL args' = denL args ∧ LC P f args' Hin R ∧ ∀ z H', R z H' → ∃ z' N, z'.den = z.den ∧ LeH H' N ∧ allOwn N ∧ K (.ret z') (H ++ N)) : HOk P f hd := by
  refine ⟨he, fun rs _ args H K w hw hk => ?_⟩
  obtain ⟨Hin, args', R, h1, h2, h3, h4, h5⟩ := h rs args H K hk
  rw [← h3]
  refine (h4.calls w (h1.holds w hw)).mono fun e w' hq => ?_
  obtain ⟨r, H', rfl, hr, hx⟩ := hq
  obtain ⟨z', N, g1, g2, g3, g4⟩ := h5 r H' hr
  exact ⟨z', H ++ N, by rw [g1], g4, Ext.make hw h2 hx g2 g3⟩
end Go.Eng
namespace Go.Eng
open Go
theorem Ext.at {H N : HH} {w w' : World} {id : Nat} {b b' : Blk} (hh : HoldsH H w) (hb : H[id]? = some b) (e : Ext [b] (b' :: N) w w') : Ext H (H.set id b' ++ N) w w' := by
  have hid : id < H.length := (List.getElem?_eq_some_iff.1 hb).1
  have keep : ∀ (i : Nat) (d : Blk), i ≠ id → H[i]? = some d → ∀ k ∈ d.nums, w'.heap[k]? = w.heap[k]? := fun i d hi hd k hk => e.fr.block k (Cont.holds_lt (hh.all i d hd) k hk) fun hm => by
    obtain ⟨j, x, hj, _, hx⟩ := mem_ownNums hm
    cases j with
    | zero => simp at hj; subst hj; exact hh.apart i id d b hd hb hi k hk hx
    | succ j => simp at hj
  have cases_ : ∀ (i : Nat) (d : Blk), (H.set id b' ++ N)[i]? = some d → (i ≠ id ∧ i < H.length ∧ H[i]? = some d) ∨ ∃ j, (b' :: N)[j]? = some d ∧ ((i = id ∧ j = 0) ∨ (H.length ≤ i ∧ j = i - H.length + 1)) := by
    intro i d hi
    rw [List.getElem?_append, List.length_set] at hi
    split at hi
    · rename_i hl
      rcases List.set_get hi with ⟨h1, h2⟩ | ⟨h1, h2, _⟩
      · exact .inl ⟨h1, hl, h2⟩
      · exact .inr ⟨0, by rw [h2]; rfl, .inl ⟨h1, rfl⟩⟩
    · rename_i hl
      exact .inr ⟨i - H.length + 1, by simpa using hi, .inr ⟨by omega, rfl⟩⟩
  have newOld : ∀ (j : Nat) (x : Blk), (b' :: N)[j]? = some x → ∀ (i : Nat) (d : Blk), i ≠ id → H[i]? = some d → ∀ k ∈ x.nums, k ∉ d.nums := fun j x hj i d hi hd k hk hk2 => by
    rcases e.src j x hj k hk with ⟨m, y, hm, hy, _⟩ | hx
    · cases m with
      | zero => simp at hm; subst hm; exact hh.apart i id d b hd hb hi k hk2 hy
      | succ m => simp at hm
    · have := Cont.holds_lt (hh.all i d hd) k hk2
      omega
  refine ⟨⟨fun i d hi => ?_, fun i j d x hi hj hij k hk hk2 => ?_⟩, ⟨e.fr.os, e.fr.tape, e.fr.output, e.fr.size, fun k hk hf => e.fr.block k hk (fun hm => hf ?_), e.fr.dr⟩, fun i d hi k hk => ?_⟩
  · rcases cases_ i d hi with ⟨h1, _, h2⟩ | ⟨j, h2, _⟩
    · exact Cont.holds_block (hh.all i d h2) (keep i d h1 h2)
    · exact e.hp.all j d h2
  · rcases cases_ i d hi with ⟨h1, h1l, h2⟩ | ⟨p, h2, h3⟩ <;> rcases cases_ j x hj with ⟨g1, g1l, g2⟩ | ⟨q, g2, g3⟩
    · exact hh.apart i j d x h2 g2 hij k hk hk2
    · exact newOld q x g2 i d h1 h2 k hk2 hk
    · exact newOld p d h2 j x g1 g2 k hk hk2
    · exact e.hp.apart p q d x h2 g2 (by omega) k hk hk2
  · obtain ⟨j, x, hj, ho, hx⟩ := mem_ownNums hm
    cases j with
    | zero => simp at hj; subst hj; exact ownNums_mem ho hx hb
    | succ j => simp at hj
  · rcases cases_ i d hi with ⟨_, _, h2⟩ | ⟨j, h2, _⟩
    · exact .inl ⟨i, d, h2, hk, fun h => h⟩
    · rcases e.src j d h2 k hk with ⟨m, y, hm, hy, ho⟩ | hx
      · cases m with
        | zero => simp at hm; subst hm; exact .inl ⟨id, b, hb, hy, ho⟩
        | succ m => simp at hm
      · exact .inr hx
theorem HOk.of_at {P : Program} {f : FuncId} {hd : Handler} (he : Enters P f) (h : ∀ rs args H K, hd rs args H K → ∃ (id : Nat) (b : Blk) (args' : List AV) (R : AV → HH → Prop), H[id]? = some b ∧ denL args' = denL args ∧ LC P f args' [b] R ∧ ∀ z H', R z H' → ∃ z' b' N, z'.den = z.den ∧ K (.ret z') (H.set id b' ++ N) ∧ LeH H' (b' :: N)) : HOk P f hd := by
  refine ⟨he, fun rs _ args H K w hw hk => ?_⟩
  obtain ⟨id, b, args', R, hb, ha, hlc, hx⟩ := h rs args H K hk
  have hone : HoldsH [b] w := holds_one (hw.all id b hb)
  rw [← ha]
  refine (hlc.calls w hone).mono fun e w' hq => ?_
  obtain ⟨r, H', rfl, hr, hext⟩ := hq
  obtain ⟨z', b', N, h1, h2, h3⟩ := hx r H' hr
  exact ⟨z', H.set id b' ++ N, by rw [h1], h2, Ext.at hw hb (hext.le h3)⟩
end Go.Eng
namespace Go.Eng
open Go
theorem parcel_ok {α : Type} {C : α → HH → Prop} (hown : ∀ x H0, C x H0 → allOwn H0) {P : Program} {f : FuncId} {hd : Handler} (he : Enters P f) (h : ∀ rs args H K, hd rs args H K → ∃ (id n : Nat) (x : α) (args' : List AV), denL args' = denL args ∧
      ((∃ S, nth H id = some (packB C n x S) ∧ ∀ H0, C x H0 → LC P f args' H0 (fun z H' => ∃ (x' : α) (N' Nx : HH) (z' : AV), LeH H' (N' ++ Nx) ∧ C x' N' ∧ z'.den = z.den ∧ ∀ S', K (.ret z') (H.set id (packB C n x' S') ++ Nx))) ∨
       (∃ b, nth H id = some b ∧ LC P f args' [b] (fun z H' => ∃ (x' : α) (N' Nx : HH) (z' : AV), LeH H' (N' ++ Nx) ∧ C x' N' ∧ z'.den = z.den ∧ ∀ S', K (.ret z') (H.set id (packB C n x' S') ++ Nx))))) : HOk P f hd := by
  refine HOk.of_at he fun rs args H K hk => ?_
  obtain ⟨id, n, x, args', h2, h3⟩ := h rs args H K hk
  rcases h3 with ⟨S, h1, h3⟩ | ⟨b, h1, h3⟩
  · refine ⟨id, packB C n x S, args', fun z H' => ∃ (x' : α) (S' : List Nat) (Nx : HH) (z' : AV), H' = packB C n x' S' :: Nx ∧ z'.den = z.den ∧ K (.ret z') (H.set id (packB C n x' S') ++ Nx), by rw [← nth_eq]; exact h1, h2, ?_, fun z H' hz => ?_⟩
    · refine LC.of_open he fun w hw => ?_
      obtain ⟨H0, g1, _, _, g4⟩ := To.unpack (Hr := []) hw
      rw [List.append_nil] at g4
      refine ⟨H0, args', _, g4, rfl, h3 H0 g1, fun r H' w' hr hw' => ?_⟩
      obtain ⟨x', N', Nx, z', e1, e2, e4, e5⟩ := hr
      have t1 := e1.to hw'
      have t2 := To.pack (Hr := Nx) n e2 (hown _ _ e2) t1.hp
      exact ⟨z', _, e4, ⟨x', numsAll N', Nx, z', rfl, rfl, e5 _⟩, t1.trans t2⟩
    · obtain ⟨x', S', Nx, z', e1, e2, e3⟩ := hz
      exact ⟨z', packB C n x' S', Nx, e2, e3, e1 ▸ LeH.refl _⟩
  · refine ⟨id, b, args', fun z H' => ∃ (x' : α) (S' : List Nat) (Nx : HH) (z' : AV), H' = packB C n x' S' :: Nx ∧ z'.den = z.den ∧ K (.ret z') (H.set id (packB C n x' S') ++ Nx), by rw [← nth_eq]; exact h1, h2, ?_, fun z H' hz => ?_⟩
    · refine LC.of_open he fun w hw => ?_
      refine ⟨[b], args', _, ⟨hw, fun i d hi k hk => ⟨i, d, hi, hk, fun h => h⟩⟩, rfl, h3, fun r H' w' hr hw' => ?_⟩
      obtain ⟨x', N', Nx, z', e1, e2, e4, e5⟩ := hr
      have t1 := e1.to hw'
      have t2 := To.pack (Hr := Nx) n e2 (hown _ _ e2) t1.hp
      exact ⟨z', _, e4, ⟨x', numsAll N', Nx, z', rfl, rfl, e5 _⟩, t1.trans t2⟩
    · obtain ⟨x', S', Nx, z', e1, e2, e3⟩ := hz
      exact ⟨z', packB C n x' S', Nx, e2, e3, e1 ▸ LeH.refl _⟩
end Go.Eng
namespace Go.Sp
open Go.Eng
def intD : DT Int := ⟨fun n => [.v (.int .i64 n)], fun l => match l with | [.v (.int .i64 n)] => some n | _ => none, 0, 1⟩
def strD : DT ByteArray := ⟨fun s => [.v (.string s)], fun l => match l with | [.v (.string s)] => some s | _ => none, ByteArray.mk #[], 1⟩
end Go.Sp
namespace Go.Eng
open Go Go.Sp
theorem intD_ok : intD.Ok where
  len _ := rfl
  dec xs a h := by
    simp only [intD] at h ⊢
    split at h
    · cases h; rfl
    · cases h
  one _ := rfl
theorem strD_ok : strD.Ok where
  len _ := rfl
  dec xs a h := by
    simp only [strD] at h ⊢
    split at h
    · cases h; rfl
    · cases h
  one _ := rfl
abbrev rD {α : Type} (d : DT α) (n o : Nat) (l : List α) (S : List Nat) (own : Bool) : Blk := ⟨n, .dl α d o l S none none, own⟩
abbrev wD {α : Type} (d : DT α) (n : Nat) (l : List α) (S : List Nat) (c : Nat) (ty : TypeId) : Blk := ⟨n, .dl α d 0 l S (some (c, ty)) none, true⟩
theorem LstH.sub {w : World} {n o N k : Nat} {row : Nat → List AV} {S : List Nat} {wr : Option (Nat × TypeId)} (h : LstH w n o N row k S wr) {r N' : Nat} {row' : Nat → List AV} (hr : r + N' ≤ N) (hrow : ∀ i, i < N' → denL (row' i) = denL (row (r + i))) : LstH w n (o + r * k) N' row' k S none := by
  obtain ⟨h1, h2, _⟩ := h
  refine ⟨h1, fun hn => ?_, fun cap ty e => (by cases e)⟩
  obtain ⟨g1, c, ty, fz, g2, g3⟩ := h2 (by omega)
  refine ⟨g1, c, ty, fz, g2, fun i hi j x hx => ?_⟩
  obtain ⟨y, hy, hyx⟩ := denL_get' (hrow i hi) hx
  have := g3 (r + i) (by omega) j y hy
  rw [hyx, ← this, Nat.add_mul]
  congr 1
  omega
theorem LstH.same {w : World} {n o N k : Nat} {row : Nat → List AV} {S : List Nat} {wr wr' : Option (Nat × TypeId)} (h : LstH w n o N row k S wr) {N' : Nat} {row' : Nat → List AV} (hr : N' ≤ N) (hw : wr' = none ∨ wr' = wr) (hrow : ∀ i, i < N' → denL (row' i) = denL (row i)) : LstH w n o N' row' k S wr' := by
  have h1 := h.sub (r := 0) (N' := N') (row' := row') (by omega) (fun i hi => by rw [Nat.zero_add]; exact hrow i hi)
  rw [Nat.zero_mul, Nat.add_zero] at h1
  refine ⟨h1.1, h1.2.1, fun cap ty e => ?_⟩
  rcases hw with rfl | rfl
  · cases e
  · obtain ⟨g1, g2, g3⟩ := h.2.2 cap ty e
    exact ⟨g1, by omega, g3⟩
section
variable {α β : Type} {d : DT α} {d' : DT β} {n o : Nat} {l : List α} {S : List Nat} {wr wr' : Option (Nat × TypeId)} {foc : Option (Nat × List AV)} {own own' : Bool}
theorem LeB.dl (ho : own' = true → own = true) (hw : wr' = none ∨ wr' = wr) : LeB ⟨n, .dl α d o l S wr foc, own⟩ ⟨n, .dl α d o l S wr' none, own'⟩ :=
  ⟨fun k hk => hk, ho, fun w h => ⟨h.1, fun f fv e => (by cases e), h.2.2.same (Nat.le_refl _) hw fun i hi => rfl⟩⟩
theorem LeB.dl_foc {f : Nat} {fv : List AV} (ho : own' = true → own = true) (hw : wr' = none ∨ wr' = wr) (h1 : fv.length = d.sz) (h2 : denL fv = denL (d.enc (dAt l d.z f))) : LeB ⟨n, .dl α d o l S wr foc, own⟩ ⟨n, .dl α d o l S wr' (some (f, fv)), own'⟩ :=
  ⟨fun k hk => hk, ho, fun w h => ⟨h.1, fun f fv e => (by cases e; exact ⟨h1, h2⟩), h.2.2.same (Nat.le_refl _) hw fun i hi => rfl⟩⟩
theorem LeB.dl_sub {r k : Nat} (ho : own' = true → own = true) (hr : r + k ≤ l.length) : LeB ⟨n, .dl α d o l S wr foc, own⟩ ⟨n, .dl α d (o + r * d.sz) ((l.drop r).take k) S none none, own'⟩ :=
  ⟨fun k hk => hk, ho, fun w h => ⟨h.1, fun f fv e => (by cases e), h.2.2.sub (by simp; omega) fun i hi => by rw [dAt_sub (by simp at hi; omega)]⟩⟩
theorem LeB.dl_as {l' : List β} (ok : d'.Ok) (ho : own' = true → own = true) (hw : wr' = none ∨ wr' = wr) (hs : d'.sz = d.sz) (hl : l'.length ≤ l.length) (he : ∀ i, i < l'.length → denL (d'.enc (dAt l' d'.z i)) = denL (d.enc (dAt l d.z i))) : LeB ⟨n, .dl α d o l S wr foc, own⟩ ⟨n, .dl β d' o l' S wr' none, own'⟩ :=
  ⟨fun k hk => hk, ho, fun w h => ⟨ok, fun f fv e => (by cases e), by rw [hs]; exact h.2.2.same hl hw he⟩⟩
theorem LeB.dl_of_lst {N : Nat} {cs : List Col} (ok : d.Ok) (ho : own' = true → own = true) (hs : cs.length = d.sz) (hl : l.length ≤ N) (he : ∀ i, i < l.length → denL (d.enc (dAt l d.z i)) = denL (rowOf cs i)) : LeB ⟨n, .lst o N cs S wr, own⟩ ⟨n, .dl α d o l S none none, own'⟩ := by
  refine ⟨fun k hk => hk, ho, fun w h => ⟨ok, fun f fv e => (by cases e), ?_⟩⟩
  obtain ⟨h1, h2, h3⟩ := h
  have : LstH w n o N (rowOf cs) cs.length S none := ⟨h1, h2, fun cap ty e => (by cases e)⟩
  rw [hs] at this
  exact this.same hl (.inl rfl) he
theorem LeB.lst_of_dl {cs : List Col} {N : Nat} (ho : own' = true → own = true) (hs : cs.length = d.sz) (hl : N ≤ l.length) (he : ∀ i, i < N → denL (rowOf cs i) = denL (d.enc (dAt l d.z i))) : LeB ⟨n, .dl α d o l S wr foc, own⟩ ⟨n, .lst o N cs S none, own'⟩ := by
  refine ⟨fun k hk => hk, ho, fun w h => ?_⟩
  have h1 := h.2.2.same (wr' := none) (row' := rowOf cs) hl (.inl rfl) he
  rw [← hs] at h1
  exact ⟨h1.1, h1.2.1, fun cap ty e => (by cases e)⟩
theorem LeB.dl_of_cells {xs : List AV} {ty : TypeId} (ok : d.Ok) (ho : own' = true → own = true) (he : ∀ i, i < l.length → denL (d.enc (dAt l d.z i)) = denL ((xs.drop (i * d.sz)).take d.sz)) : LeB ⟨n, .cells xs ty, own⟩ ⟨n, .dl α d 0 l [n] none none, own'⟩ := by
  refine ⟨fun k hk => hk, ho, fun w h => ⟨ok, fun f fv e => (by cases e), ?_, fun _ => ⟨List.mem_singleton.2 rfl, ?_⟩, fun cap ty e => (by cases e)⟩⟩
  · intro k hk; cases List.mem_singleton.1 hk; obtain ⟨_, h, _⟩ := h; exact lt_of_some h
  · obtain ⟨fz, h, _⟩ := h
    refine ⟨_, ty, fz, h, fun i hi j x hx => ?_⟩
    obtain ⟨y, hy, hyx⟩ := denL_get' (he i hi) hx
    have hj : j < d.sz := by
      rcases Nat.lt_or_ge j d.sz with h1 | h1
      · exact h1
      · rw [List.getElem?_eq_none (by rw [ok.len]; exact h1)] at hx; cases hx
    rw [List.getElem?_take, if_pos hj, List.getElem?_drop] at hy
    rw [hyx, Nat.zero_add]
    exact denL_get hy
theorem LeB.dl_of_rows {N : Nat} {cs : List Col} {ty : TypeId} (ok : d.Ok) (ho : own' = true → own = true) (hs : cs.length = d.sz) (hl : l.length ≤ N) (he : ∀ i, i < l.length → denL (d.enc (dAt l d.z i)) = denL (rowOf cs i)) : LeB ⟨n, .rows N cs ty, own⟩ ⟨n, .dl α d 0 l [n] (some (N, ty)) none, own'⟩ := by
  refine ⟨fun k hk => hk, ho, fun w h => ⟨ok, fun f fv e => (by cases e), ?_⟩⟩
  obtain ⟨c, ⟨fz, h1, h2⟩, h3, h4⟩ := h
  refine ⟨fun k hk => by cases List.mem_singleton.1 hk; exact lt_of_some h1, fun _ => ⟨List.mem_singleton.2 rfl, c, ty, fz, h1, fun i hi j x hx => ?_⟩, fun cap ty' e => ?_⟩
  · obtain ⟨y, hy, hyx⟩ := denL_get' (he i hi) hx
    have := h4 i (by omega) j y hy
    rw [hyx, Nat.zero_add, ← hs]
    exact this
  · cases e
    exact ⟨rfl, hl, fun _ => ⟨List.mem_singleton.2 rfl, c, ⟨fz, h1, h2⟩, by rw [h3, hs]; exact Nat.le_refl _⟩⟩
end
theorem LC.read {P : Program} {f : FuncId} {args : List AV} {H : HH} {Q : AV → Prop} (he : Enters P f) (h : ∀ w, HoldsH H w → ∃ (Hin : HH) (args' : List AV), HoldsH Hin w ∧ ownNums Hin = [] ∧ denL args' = denL args ∧ LC P f args' Hin (fun r _ => Q r)) : LC P f args H (fun r H' => Q r ∧ H' = H) :=
  ⟨he, fun w hw => by
    obtain ⟨Hin, args', h1, h2, h3, h4⟩ := h w hw
    rw [← h3]
    refine (h4.calls w h1).mono fun e w' hq => ?_
    obtain ⟨r, H', rfl, hr, hx⟩ := hq
    have fr : Frm [] w w' := by have := hx.fr; rw [h2] at this; exact this
    exact ⟨r, H, rfl, ⟨hr, rfl⟩, ((HeapOk.enter hw).pure fr).toExt⟩⟩
theorem LeH.of_bs {H H' : HH} (h : LeBs H H') : LeH H H' := by
  refine ⟨fun w hw => ⟨fun i c hi => ?_, fun i j b c hi hj hij k hk1 hk2 => ?_⟩, fun i c hi k hk => ?_⟩
  · obtain ⟨b, hb, h1, h2, h3⟩ := h.get hi
    exact h3 w (hw.all i b hb)
  · obtain ⟨b', hb', h1, _, _⟩ := h.get hi
    obtain ⟨c', hc', h2, _, _⟩ := h.get hj
    exact hw.apart i j b' c' hb' hc' hij k (h1 k hk1) (h2 k hk2)
  · obtain ⟨b, hb, h1, h2, _⟩ := h.get hi
    exact ⟨i, b, hb, h1 k hk, h2⟩
theorem LeBs.append : ∀ {H H' G G' : HH}, LeBs H H' → LeBs G G' → LeBs (H ++ G) (H' ++ G')
  | [], [], _, _, _, h => h
  | _ :: _, _ :: _, _, _, ⟨h1, h2⟩, h => ⟨h1, LeBs.append h2 h⟩
  | [], _ :: _, _, _, h, _ => h.elim
  | _ :: _, [], _, _, h, _ => h.elim
theorem LeH.last {H : HH} {b c : Blk} (h : LeB b c) : LeH (H ++ [b]) (H ++ [c]) := LeH.of_bs (LeBs.append (LeBs.refl H) ⟨h, trivial⟩)
theorem LC.pre {P : Program} {f : FuncId} {args args' : List AV} {H H' : HH} {R : AV → HH → Prop} (h : LC P f args' H' R) (hl : LeH H H') (ha : denL args' = denL args) : LC P f args H R :=
  ⟨h.enters, fun w hw => by
    rw [← ha]
    exact (h.calls w (hl.holds w hw)).mono fun e w' hq => by
      obtain ⟨v, H2, rfl, hr, hx⟩ := hq
      exact ⟨v, H2, rfl, hr, Ext.of_to (hl.to hw) hx⟩⟩
end Go.Eng
namespace Go.Eng
open Go
def hole : Blk := ⟨0, .lst 0 0 [] [] none, false⟩
def holes : HH → List Nat → HH
  | H, [] => H
  | H, i :: l => holes (H.set i hole) l
theorem holes_get : ∀ {l : List Nat} {H : HH} {i : Nat} {b : Blk}, (holes H l)[i]? = some b → b = hole ∨ (i ∉ l ∧ H[i]? = some b)
  | [], H, i, b, h => .inr ⟨by simp, h⟩
  | j :: l, H, i, b, h => by
    rcases holes_get (l := l) h with h | ⟨h1, h2⟩
    · exact .inl h
    · rw [List.getElem?_set] at h2
      split at h2
      · split at h2
        · cases h2; exact .inl rfl
        · cases h2
      · rename_i hij
        exact .inr ⟨fun h => (by
          rcases List.mem_cons.1 h with rfl | h
          · exact hij rfl
          · exact h1 h), h2⟩
theorem hole_nums : hole.nums = [] := rfl
theorem Ext.take {H Hin H' N : HH} {is : List Nat} {w w' : World} (hh : HoldsH H w) (hb : LeBs (pickH H is) Hin) (e : Ext Hin H' w w') (h3 : LeH H' N) : Ext H (holes H is ++ N) w w' := by
  have src : ∀ (m : Nat) (x : Blk), Hin[m]? = some x → ∀ k ∈ x.nums, ∃ (i : Nat) (c : Blk), i ∈ is ∧ H[i]? = some c ∧ k ∈ c.nums ∧ (x.own = true → c.own = true) := fun m x hm k hk => by
    obtain ⟨b, hb', h1, h2, _⟩ := LeBs.get hb hm
    obtain ⟨j, hj, hjb⟩ := pickH_src hb'
    exact ⟨j, b, hj, hjb, h1 k hk, h2⟩
  have own : ∀ k, k ∈ ownNums Hin → ∃ (i : Nat) (c : Blk), i ∈ is ∧ H[i]? = some c ∧ k ∈ c.nums ∧ c.own = true := fun k hk => by
    obtain ⟨m, x, hm, ho, hkx⟩ := mem_ownNums hk
    obtain ⟨i, c, h1, h2, h3, h4⟩ := src m x hm k hkx
    exact ⟨i, c, h1, h2, h3, h4 ho⟩
  have old : ∀ (i : Nat) (b : Blk), i ∉ is → H[i]? = some b → b.c.holds w' b.num := fun i b hi hib =>
    Cont.holds_block (hh.all i b hib) fun k hk => e.fr.block k (Cont.holds_lt (hh.all i b hib) k hk) fun hko => by
      obtain ⟨j, c, h1, h2, h3, _⟩ := own k hko
      exact hh.apart i j b c hib h2 (fun e => hi (e ▸ h1)) k hk h3
  have hN := h3.holds _ e.hp
  have new : ∀ (i : Nat) (b : Blk), N[i]? = some b → ∀ k ∈ b.nums, (∃ (j : Nat) (c : Blk), j ∈ is ∧ H[j]? = some c ∧ k ∈ c.nums ∧ (b.own = true → c.own = true)) ∨ w.heap.size ≤ k := fun i b hi k hk => by
    obtain ⟨j, d, hj, hd, ho⟩ := h3.src i b hi k hk
    rcases e.src j d hj k hd with ⟨m, x, hm, hx, hxo⟩ | h
    · obtain ⟨q, c, q1, q2, q3, q4⟩ := src m x hm k hx
      exact .inl ⟨q, c, q1, q2, q3, fun h => q4 (hxo (ho h))⟩
    · exact .inr h
  have cases_ : ∀ (i : Nat) (b : Blk), (holes H is ++ N)[i]? = some b → b = hole ∨ (i < (holes H is).length ∧ i ∉ is ∧ H[i]? = some b) ∨ ((holes H is).length ≤ i ∧ N[i - (holes H is).length]? = some b) := by
    intro i b hi
    rw [List.getElem?_append] at hi
    split at hi
    · rename_i hl
      rcases holes_get hi with h | ⟨h1, h2⟩
      · exact .inl h
      · exact .inr (.inl ⟨hl, h1, h2⟩)
    · exact .inr (.inr ⟨by omega, hi⟩)
  refine ⟨⟨fun i b hi => ?_, fun i j b c hi hj hij k hk hk2 => ?_⟩, ⟨e.fr.os, e.fr.tape, e.fr.output, e.fr.size, fun k hk hn => e.fr.block k hk fun hko => ?_, e.fr.dr⟩, fun i b hi k hk => ?_⟩
  · rcases cases_ i b hi with rfl | ⟨_, h1, h2⟩ | ⟨_, h1⟩
    · exact lst_nil (.inl rfl)
    · exact old i b h1 h2
    · exact hN.all _ b h1
  · rcases cases_ i b hi with rfl | ⟨l1, g1, h1⟩ | ⟨l1, h1⟩
    · rw [hole_nums] at hk; cases hk
    · rcases cases_ j c hj with rfl | ⟨l2, g2, h2⟩ | ⟨l2, h2⟩
      · rw [hole_nums] at hk2; cases hk2
      · exact hh.apart i j b c h1 h2 hij k hk hk2
      · rcases new _ c h2 k hk2 with ⟨q, d, q1, q2, q3, _⟩ | h
        · exact hh.apart i q b d h1 q2 (fun e => g1 (e ▸ q1)) k hk q3
        · have := Cont.holds_lt (hh.all i b h1) k hk
          omega
    · rcases cases_ j c hj with rfl | ⟨l2, g2, h2⟩ | ⟨l2, h2⟩
      · rw [hole_nums] at hk2; cases hk2
      · rcases new _ b h1 k hk with ⟨q, d, q1, q2, q3, _⟩ | h
        · exact hh.apart j q c d h2 q2 (fun e => g2 (e ▸ q1)) k hk2 q3
        · have := Cont.holds_lt (hh.all j c h2) k hk2
          omega
      · exact hN.apart _ _ b c h1 h2 (by omega) k hk hk2
  · obtain ⟨i, c, _, h2, h3, h4⟩ := own k hko
    exact hn (ownNums_mem h4 h3 h2)
  · rcases cases_ i b hi with rfl | ⟨_, _, h1⟩ | ⟨_, h1⟩
    · rw [hole_nums] at hk; cases hk
    · exact .inl ⟨i, b, h1, hk, id⟩
    · rcases new _ b h1 k hk with ⟨q, d, _, q2, q3, q4⟩ | h
      · exact .inl ⟨q, d, q2, q3, q4⟩
      · exact .inr h
theorem HOk.of_take {P : Program} {f : FuncId} {hd : Handler} (he : Enters P f) (h : ∀ rs args H K, hd rs args H K → ∃ (is : List Nat) (Hin : HH) (args' : List AV) (R : AV → HH → Prop), is.Nodup ∧ LeBs (pickH H is) Hin ∧ denL args' = denL args ∧ LC P f args' Hin R ∧ ∀ z H', R z H' → ∃ z' N, z'.den = z.den ∧ LeH H' N ∧ K (.ret z') (holes H is ++ N)) : HOk P f hd := by
  refine ⟨he, fun rs _ args H K w hw hk => ?_⟩
  obtain ⟨is, Hin, args', R, hn, h1, h3, h4, h5⟩ := h rs args H K hk
  rw [← h3]
  refine (h4.calls w ((leAt is hn h1).holds w hw)).mono fun e w' hq => ?_
  obtain ⟨r, H', rfl, hr, hx⟩ := hq
  obtain ⟨z', N, g1, g2, g4⟩ := h5 r H' hr
  exact ⟨z', holes H is ++ N, by rw [g1], g4, Ext.take hw h1 hx g2⟩
theorem HOk.of_look {P : Program} {f : FuncId} {hd : Handler} (he : Enters P f) (h : ∀ rs args H K, hd rs args H K → ∃ z : AV, K (.ret z) H ∧ ∀ w, HoldsH H w → ∃ (Hin : HH) (args' : List AV), HoldsH Hin w ∧ ownNums Hin = [] ∧ denL args' = denL args ∧ LC P f args' Hin (fun r _ => r.den = z.den)) : HOk P f hd := by
  refine ⟨he, fun rs _ args H K w hw hk => ?_⟩
  obtain ⟨z, h5, h⟩ := h rs args H K hk
  obtain ⟨Hin, args', h1, h2, h3, h4⟩ := h w hw
  rw [← h3]
  refine (h4.calls w h1).mono fun e w' hq => ?_
  obtain ⟨r, H', rfl, hr, hx⟩ := hq
  have fr : Frm [] w w' := by have := hx.fr; rw [h2] at this; exact this
  exact ⟨z, H, by rw [hr], h5, ((HeapOk.enter hw).pure fr).toExt⟩
end Go.Eng
namespace Go.Eng
open Go Go.Sp
theorem LeB.cells {n : Nat} {l l' : List AV} {ty : TypeId} {own own' : Bool} (h : denL l = denL l') (ho : own' = true → own = true) : LeB ⟨n, .cells l ty, own⟩ ⟨n, .cells l' ty, own'⟩ :=
  ⟨fun k hk => hk, ho, fun w hw => by
    show Held w n (denL l') ty
    rw [← h]; exact hw⟩
theorem br_eq {α : Type} [DecidableEq α] {l m : α} {A B : Prop} (h : l = m) (hb : B) : br (!decide (l = m)) A B := by
  rw [decide_eq_true h]; exact hb
theorem HOk.mono {P : Program} {f : FuncId} {h h' : Handler} (ok : HOk P f h) (hm : ∀ rs args H K, h' rs args H K → h rs args H fun o H' => ∃ (v v' : AV) (H'' : HH), o = .ret v ∧ v'.den = v.den ∧ K (.ret v') H'' ∧ LeH H' H'') : HOk P f h' := by
  refine ⟨ok.enters, fun rs hrs args H K w hw hk => (ok.calls rs hrs args H _ w hw (hm rs args H K hk)).mono fun e w' hq => ?_⟩
  cases e with
  | returned x =>
    obtain ⟨v, H', rfl, ⟨v1, v2, H2, e1, e2, e3, e4⟩, hx⟩ := hq
    cases e1
    exact ⟨v2, H2, e2.symm, e3, hx.le e4⟩
  | panicked ch =>
    obtain ⟨v, H', rfl, ⟨v1, v2, H2, e1, _⟩, hx⟩ := hq
    cases e1
  | outgrown => exact hq.elim
theorem LC.den {P : Program} {f : FuncId} {args : List AV} {Hin : HH} {Q : AV → HH → Prop} (h : LC P f args Hin fun z H' => ∃ z', z'.den = z.den ∧ Q z' H') : LC P f args Hin Q :=
  ⟨h.enters, fun w hw => (h.calls w hw).mono fun e w' hq => by
    obtain ⟨v, H', rfl, ⟨z', e1, e2⟩, hx⟩ := hq
    exact ⟨z', H', by rw [e1], e2, hx⟩⟩
end Go.Eng
