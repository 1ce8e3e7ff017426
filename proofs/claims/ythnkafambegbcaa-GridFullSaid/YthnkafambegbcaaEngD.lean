import Derived.Test.YthnkafambegbcaaEngC
import Derived.Great.BuildSlice
import Derived.Laws.IdiomStrings
import Derived.Laws.AppendOwn
set_option linter.unusedSimpArgs false
namespace Go.Eng
open Go Go.Sp
theorem cell_of {w : World} {n : Nat} {c : List Value} {ty : TypeId} (h : Held w n c ty) (o : Nat) : w.cell? ⟨n, o, none⟩ = c[o]? := by
  obtain ⟨fz, h, _⟩ := h
  simp [World.cell?, h]
theorem frozen_of {w : World} {n : Nat} {c : List Value} {ty : TypeId} (h : Held w n c ty) (o : Nat) (ho : o < c.length) : w.frozen? ⟨n, o, none⟩ = false := by
  obtain ⟨fz, h, hf⟩ := h
  obtain ⟨lo, hi⟩ := fz
  simp only [World.frozen?, h]
  rcases hf with hf | hf
  · simp only [Prod.mk.injEq] at hf
    obtain ⟨rfl, rfl⟩ := hf
    simp
  · simp only [] at hf
    simp
    omega
theorem alloc_at (w : World) (o : Obj) : (w.alloc o).heap[w.heap.size]? = some o := by
  show (w.heap.push o)[w.heap.size]? = _
  simp
theorem addr_add (n o i : Nat) : (⟨n, o, none⟩ : Addr).add i = ⟨n, o + i, none⟩ := by
  unfold Addr.add; split <;> simp_all
theorem run_loadVar_part {P : Program} {tab : Tab} (ht : TabOk P tab) {w : World} {n base t o : Nat} {l : List AV} {v : AV} (hc : ∀ j x, l[j]? = some x → w.cell? ⟨n, base + j, none⟩ = some x.den) (h : partAV tab t l o = some v) :
    (loadVar t ⟨n, base + o, none⟩).run P w = .ok v.den w := by
  unfold partAV at h
  cases hi : tab.get t with
  | none => simp [hi] at h
  | some i =>
    simp only [hi] at h
    have ho := ht.get hi
    simp only [loadVar, Sem.run_bind, ho.run_isAgg, Result.andThen_ok]
    split at h
    · rename_i hagg
      split at h
      · rename_i hlen
        cases h
        have hll : (denL ((l.drop o).take i.sz)).length = i.sz := by simp; omega
        have := run_loadCells_list (P := P) w ⟨n, base + o, none⟩ (denL ((l.drop o).take i.sz)) (fun j x hj => by
          rw [addr_add]
          have hj' : j < i.sz := by
            rcases Nat.lt_or_ge j i.sz with h | h
            · exact h
            · rw [List.getElem?_eq_none (by rw [hll]; exact h)] at hj; cases hj
          have hg : (denL ((l.drop o).take i.sz))[j]? = (l[o + j]?).map AV.den := by
            rw [denL_map, List.getElem?_map, List.getElem?_take, if_pos hj', List.getElem?_drop]
          rw [hg] at hj
          cases hx : l[o + j]? with
          | none => simp [hx] at hj
          | some y =>
            simp [hx] at hj
            subst hj
            have := hc (o + j) y hx
            rwa [← Nat.add_assoc] at this)
        rw [hll] at this
        simp only [hagg, if_true, Sem.run_bind, ho.run_sizeOf, Result.andThen_ok, this, Sem.run_pure, AV.den]
      · cases h
    · rename_i hagg
      have := hc o v h
      simp [hagg, this]
def spliceV : List Value → Nat → List Value → List Value
  | l, _, [] => l
  | l, o, x :: xs => spliceV (l.set o x) (o + 1) xs
theorem splice_spliceV : ∀ (xs l : List AV) (o : Nat), denL (splice l o xs) = spliceV (denL l) o (denL xs)
  | [], l, o => rfl
  | x :: xs, l, o => by
    simp only [splice, denL, spliceV]
    rw [splice_spliceV xs]
    congr 1
    simp [denL_map, List.map_set]
@[simp] theorem spliceV_length : ∀ (xs l : List Value) (o : Nat), (spliceV l o xs).length = l.length
  | [], _, _ => rfl
  | x :: xs, l, o => by simp [spliceV, spliceV_length xs]
theorem spliceV_get : ∀ (xs l : List Value) (o k : Nat), o + xs.length ≤ l.length → (spliceV l o xs)[k]? = if o ≤ k ∧ k < o + xs.length then xs[k - o]? else l[k]?
  | [], l, o, k, _ => by
    simp only [spliceV, List.length_nil, Nat.add_zero]
    rw [if_neg (by omega)]
  | x :: xs, l, o, k, h => by
    simp only [List.length_cons] at h
    simp only [spliceV]
    rw [spliceV_get xs (l.set o x) (o + 1) k (by simp; omega)]
    simp only [List.length_cons]
    by_cases h1 : o + 1 ≤ k ∧ k < o + 1 + xs.length
    · rw [if_pos h1, if_pos (by omega)]
      obtain ⟨d, rfl⟩ : ∃ d, k = o + 1 + d := ⟨k - (o + 1), by omega⟩
      rw [show o + 1 + d - o = d + 1 by omega, List.getElem?_cons_succ]
      congr 1
      omega
    · rw [if_neg h1, List.getElem?_set]
      by_cases h2 : o = k
      · subst h2
        rw [if_pos rfl, if_pos (by omega), if_pos (by omega)]
        simp
      · rw [if_neg h2, if_neg (by omega)]
theorem splice_get (xs l : List AV) (o k : Nat) (h : o + xs.length ≤ l.length) : (splice l o xs)[k]? = if o ≤ k ∧ k < o + xs.length then xs[k - o]? else l[k]? := by
  induction xs generalizing l o with
  | nil =>
    simp only [splice, List.length_nil, Nat.add_zero]
    rw [if_neg (by omega)]
  | cons x xs ih =>
    simp only [List.length_cons] at h
    simp only [splice]
    rw [ih (l.set o x) (o + 1) (by simp; omega)]
    simp only [List.length_cons]
    by_cases h1 : o + 1 ≤ k ∧ k < o + 1 + xs.length
    · rw [if_pos h1, if_pos (by omega)]
      obtain ⟨d, rfl⟩ : ∃ d, k = o + 1 + d := ⟨k - (o + 1), by omega⟩
      rw [show o + 1 + d - o = d + 1 by omega, List.getElem?_cons_succ]
      congr 1
      omega
    · rw [if_neg h1, List.getElem?_set]
      by_cases h2 : o = k
      · subst h2
        rw [if_pos rfl, if_pos (by omega), if_pos (by omega)]
        simp
      · rw [if_neg h2, if_neg (by omega)]
theorem all_one_den {xs : List AV} (h : xs.all AV.one = true) : ∀ x ∈ denL xs, x.oneCell' = true := by
  intro x hx
  rw [denL_map] at hx
  obtain ⟨y, hy, rfl⟩ := List.mem_map.1 hx
  exact AV.one_den (List.all_eq_true.1 h y hy)
structure Stored (w w' : World) (n : Nat) (c : List Value) (ty : TypeId) : Prop where
  at_ : Held w' n c ty
  os : w'.os = w.os
  tape : w'.tape = w.tape
  output : w'.output = w.output
  size : w'.heap.size = w.heap.size
  block : ∀ k, k ≠ n → w'.heap[k]? = w.heap[k]?
  dr : Dr w w' := by first | exact Dr.of_le (Nat.le_refl _) | exact Dr.of_le (by simp)
theorem run_storeCells (P : Program) : ∀ (xs : List Value) (w : World) (n o k : Nat) (c : List Value) (ty : TypeId), Held w n c ty → o + k + xs.length ≤ c.length → (∀ x ∈ xs, x.oneCell' = true) →
    ∃ w', (storeCells ⟨n, o, none⟩ xs k).run P w = .ok () w' ∧ Stored w w' n (spliceV c (o + k) xs) ty
  | [], w, n, o, k, c, ty, h, _, _ => ⟨w, rfl, ⟨h, rfl, rfl, rfl, rfl, fun _ _ => rfl, Dr.refl _⟩⟩
  | x :: xs, w, n, o, k, c, ty, h, hl, hx => by
    simp only [List.length_cons] at hl
    have hcell : w.cell? ⟨n, o + k, none⟩ = some (c[o + k]'(by omega)) := by
      rw [cell_of h]; simp
    have hfz := frozen_of h (o + k) (by omega)
    have hw : Held (w.setCell ⟨n, o + k, none⟩ x) n (c.set (o + k) x) ty := by
      obtain ⟨fz, h, hf⟩ := h
      exact ⟨fz, by simp [World.setCell, Array.getElem?_modify, h], by simpa using hf⟩
    obtain ⟨w', hr, hs⟩ := run_storeCells P xs (w.setCell ⟨n, o + k, none⟩ x) n o (k + 1) (c.set (o + k) x) ty hw (by simp; omega) (fun y hy => hx y (by simp [hy]))
    refine ⟨w', ?_, ?_⟩
    · simp only [storeCells, Sem.run_bind, addr_add]
      rw [run_store P w _ _ _ (hx x (by simp))]
      simp only [hcell, hfz, Bool.false_eq_true, if_false, Result.andThen_ok, hr]
    · refine ⟨?_, hs.os, hs.tape, hs.output, ?_, fun m hm => ?_, (Dr.of_le (Nat.le_refl _)).trans hs.dr⟩
      · have := hs.at_
        rw [← Nat.add_assoc] at this
        exact this
      · rw [hs.size]; simp
      · rw [hs.block m hm]; exact Go.RowKit.Below.heap_setCell _ _ _ _ (by simpa using hm)
section
variable {P : Program} {tab : Tab}
theorem textsK_yields {P : Program} {tab : Tab} (ht : TabOk P tab) {t : TypeId} {id m n o i oo L : Nat} {g : Nat → RW} {F : Nat → Nat → ByteArray} {S : List Nat} {full : Bool} {K : AV → Prop} (h : textsK tab t id m n o i oo L g F full K) :
    ∃ v, K v ∧ ∀ w, (Cont.texts oo L g F S full).holds w m → (Instr.loadAt t (AV.vp id n o i 1 0).den).run P w = .ok v.den w := by
  have one : ∀ {x : AV}, partK tab t x K → ∃ v, K v ∧ ∀ w, w.cell? ⟨n, o + i, none⟩ = some x.den → (Instr.loadAt t (AV.vp id n o i 1 0).den).run P w = .ok v.den w := fun {x} hx => by
    unfold partK at hx
    split at hx
    · rename_i v hv
      refine ⟨v, hx, fun w hc => ?_⟩
      have := run_loadVar_part ht (w := w) (n := n) (base := o + i) (fun k y hk => by
        cases k with
        | zero => simp at hk; subst hk; simpa using hc
        | succ k => simp at hk) hv
      simp only [Nat.add_zero] at this
      simp [Instr.loadAt, AV.den, Instr.sureAddr, this]
    · exact hx.elim
  unfold textsK at h
  split at h
  · obtain ⟨rfl, rfl, hi, h01⟩ := h
    have cell : ∀ w, (Cont.texts o L g F S full).holds w n → w.cell? ⟨n, o + i, none⟩ = some (.slice (if (g i).len = 0 then (g i).a else some ⟨(g i).n, (g i).o, none⟩) (g i).len (g i).cap) := fun w hw => by
      obtain ⟨_, c, ty, fz, hc, hx⟩ := hw.2.1 (by omega)
      have := hx i hi
      simpa [World.cell?, hc] using this
    cases full with
    | true =>
      obtain ⟨v, hv, hr⟩ := one h01
      refine ⟨v, hv, fun w hw => hr w ?_⟩
      have hp := hw.2.2.2 rfl i hi
      rw [cell w hw, if_neg (by omega)]
      rfl
    | false =>
    obtain ⟨v, hv, hr⟩ := one h01
    refine ⟨v, hv, fun w hw => hr w ?_⟩
    rw [cell w hw]
    simp [AV.den]
  · obtain ⟨q, hq, rfl, rfl, hi, h⟩ := h
    obtain ⟨v, hv, hr⟩ := one h
    exact ⟨v, hv, fun w hw => hr w (hw.2.2.1 q hq i hi).2⟩
  · exact h.elim
theorem textsK_sound {P : Program} {tab : Tab} (ht : TabOk P tab) {w : World} {t : TypeId} {id m n o i oo L : Nat} {g : Nat → RW} {F : Nat → Nat → ByteArray} {S : List Nat} {full : Bool} {K : AV → Prop} (hw : (Cont.texts oo L g F S full).holds w m) (h : textsK tab t id m n o i oo L g F full K) : ∃ v, K v ∧ (Instr.loadAt t (AV.vp id n o i 1 0).den).run P w = .ok v.den w := by
  obtain ⟨v, hv, hr⟩ := textsK_yields ht (S := S) h
  exact ⟨v, hv, hr w hw⟩
theorem denL_get' {l m : List AV} (h : denL l = denL m) {k : Nat} {x : AV} (hx : l[k]? = some x) : ∃ y, m[k]? = some y ∧ x.den = y.den := by
  have h1 := denL_get hx
  rw [h, denL_map, List.getElem?_map] at h1
  cases hm : m[k]? with
  | none => rw [hm] at h1; cases h1
  | some y => rw [hm] at h1; simp at h1; exact ⟨y, rfl, h1.symm⟩
theorem dlK_sound {tab : Tab} {w : World} {t n o i j : Nat} {α : Type} {d : DT α} {l : List α} {S : List Nat} {wr : Option (Nat × TypeId)} {foc : Option (Nat × List AV)} {K : AV → Prop} (hw : (Cont.dl α d o l S wr foc).holds w n) (h : focK tab d l t i j foc K) :
    ∃ v, K v ∧ ∃ l0 : List AV, partAV tab t l0 j = some v ∧ denL l0 = denL (d.enc (dAt l d.z i)) := by
  cases foc with
  | none =>
    simp only [focK] at h
    split at h
    · rename_i v hv
      exact ⟨v, h, _, hv, rfl⟩
    · exact h.elim
  | some p =>
    obtain ⟨f, fv⟩ := p
    simp only [focK] at h
    obtain ⟨rfl, h⟩ := h
    split at h
    · rename_i v hv
      exact ⟨v, h, _, hv, (hw.2.1 i fv rfl).2⟩
    · exact h.elim
theorem mixK_yields {P : Program} {tab : Tab} (ht : TabOk P tab) {n o B N : Nat} {bs : Nat → Bool} {is : Nat → Int} {ty t : TypeId} {K : AV → Prop}
    (h : mixK tab t o B N bs is K) : ∃ v, K v ∧ ∀ w', (Cont.mix B N bs is ty).holds w' n → (Instr.loadAt t (AV.ptr 0 n o).den).run P w' = .ok v.den w' := by
  have one : ∀ {x : AV}, (∀ w', (Cont.mix B N bs is ty).holds w' n → w'.cell? ⟨n, o, none⟩ = some x.den) → partK tab t x K → ∃ v, K v ∧ ∀ w', (Cont.mix B N bs is ty).holds w' n → (Instr.loadAt t (AV.ptr 0 n o).den).run P w' = .ok v.den w' := fun {x} hc hx => by
    unfold partK at hx
    split at hx
    · rename_i v hv
      refine ⟨v, hx, fun w' hw' => ?_⟩
      have := run_loadVar_part ht (w := w') (n := n) (base := o) (l := [x]) (o := 0) (fun j y hj => by
        cases j with
        | zero =>
          simp only [List.getElem?_cons_zero, Option.some.injEq] at hj
          subst hj
          simpa using hc w' hw'
        | succ j => simp at hj) hv
      simp only [Nat.add_zero] at this
      simp [Instr.loadAt, AV.den, Instr.sureAddr, this]
    · exact hx.elim
  unfold mixK at h
  split at h
  · obtain ⟨h1, h2, h3⟩ := h
    refine one (fun w' hw' => ?_) h3
    obtain ⟨c, hc, _, hcc⟩ := hw'
    rw [cell_of hc, hcc o h2, if_pos h1]; rfl
  · obtain ⟨h1, h2, h3⟩ := h
    refine one (fun w' hw' => ?_) h3
    obtain ⟨c, hc, _, hcc⟩ := hw'
    rw [cell_of hc, hcc o h2, if_neg (by omega)]; rfl
  · exact h.elim
theorem loadK_sound (ht : TabOk P tab) {H : HH} {w : World} (hh : HoldsH H w) {t : TypeId} {p : AV} {K : AV → Prop} (h : loadK tab H t p K) : ∃ v, K v ∧ (Instr.loadAt t p.den).run P w = .ok v.den w := by
  unfold loadK at h
  split at h
  · rename_i id n o
    split at h
    · rename_i m l ty own hb
      obtain ⟨rfl, h⟩ := h
      split at h
      · rename_i v hv
        refine ⟨v, h, ?_⟩
        rw [nth_eq] at hb
        have hc := hh.all id _ hb
        simp only [Cont.holds] at hc
        have := run_loadVar_part ht (w := w) (n := n) (base := 0) (fun j x hj => by rw [cell_of hc]; simp [denL_get hj]) hv
        simp only [Nat.zero_add] at this
        simp [Instr.loadAt, AV.den, Instr.sureAddr, this]
      · exact h.elim
    · rename_i m B N bs is ty own hb
      obtain ⟨rfl, h⟩ := h
      rw [nth_eq] at hb
      have hc := hh.all id _ hb
      obtain ⟨v, h1, h2⟩ := mixK_yields (ty := ty) ht h
      exact ⟨v, h1, h2 w hc⟩
    · exact h.elim
  · rename_i id n i sz j
    split at h
    · rename_i m N cs ty own hb
      have g_ := ck_spec h
      clear h
      obtain ⟨hs, rfl, hi, h⟩ := g_
      obtain rfl := Nat.eq_of_beq_eq_true hs
      split at h
      · rename_i v hv
        refine ⟨v, h, ?_⟩
        rw [nth_eq] at hb
        obtain ⟨c, hc, hcs, hcc⟩ := hh.all id _ hb
        have := run_loadVar_part ht (w := w) (n := n) (base := i * cs.length) (fun k x hk => by rw [cell_of hc]; exact hcc i hi k x hk) hv
        simp [Instr.loadAt, AV.den, Instr.sureAddr, this]
      · exact h.elim
    · rename_i m l ty own hb
      obtain ⟨rfl, h⟩ := h
      split at h
      · rename_i v hv
        refine ⟨v, h, ?_⟩
        rw [nth_eq] at hb
        have hc := hh.all id _ hb
        simp only [Cont.holds] at hc
        have := run_loadVar_part ht (w := w) (n := n) (base := 0) (fun j x hj => by rw [cell_of hc]; simp [denL_get hj]) hv
        simp only [Nat.zero_add] at this
        simp [Instr.loadAt, AV.den, Instr.sureAddr, this]
      · exact h.elim
    · exact h.elim
  · rename_i id n o i sz j
    split at h
    · rename_i m o' N cs own hb
      have g_ := ck_spec h
      clear h
      obtain ⟨hs, rfl, rfl, hi, h⟩ := g_
      obtain rfl := Nat.eq_of_beq_eq_true hs
      split at h
      · rename_i v hv
        refine ⟨v, h, ?_⟩
        rw [nth_eq] at hb
        obtain ⟨c, ty, fz, hc, hcc⟩ := hh.all id _ hb
        have := run_loadVar_part ht (w := w) (n := n) (base := o + i * cs.length) (fun k x hk => by
          have := hcc i hi k x hk
          simpa [World.cell?, hc] using this) hv
        simp [Instr.loadAt, AV.den, Instr.sureAddr, this]
      · exact h.elim
    · rename_i m o' N cs S wr own hb
      have g_ := ck_spec h
      clear h
      obtain ⟨hs, rfl, rfl, hi, h⟩ := g_
      obtain rfl := Nat.eq_of_beq_eq_true hs
      split at h
      · rename_i v hv
        refine ⟨v, h, ?_⟩
        rw [nth_eq] at hb
        obtain ⟨_, c, ty, fz, hc, hcc⟩ := (hh.all id _ hb).2.1 (by omega)
        have := run_loadVar_part ht (w := w) (n := n) (base := o + i * cs.length) (fun k x hk => by
          have := hcc i hi k x hk
          simpa [World.cell?, hc] using this) hv
        simp [Instr.loadAt, AV.den, Instr.sureAddr, this]
      · exact h.elim
    · rename_i m α d o' l S wr foc own hb
      have g_ := ck_spec h
      clear h
      obtain ⟨hs, rfl, rfl, hi, h⟩ := g_
      obtain rfl := Nat.eq_of_beq_eq_true hs
      rw [nth_eq] at hb
      have hw := hh.all id _ hb
      obtain ⟨v, hv, l0, hp, hd⟩ := dlK_sound hw h
      refine ⟨v, hv, ?_⟩
      obtain ⟨_, c, ty, fz, hc, hcc⟩ := hw.2.2.2.1 (by omega)
      have := run_loadVar_part ht (w := w) (n := n) (base := o + i * d.sz) (fun k x hk => by
        have := denL_get' (l := l0) (m := d.enc (dAt l d.z i)) hd hk
        obtain ⟨y, hy, hyx⟩ := this
        have := hcc i hi k y hy
        rw [hyx]
        simpa [World.cell?, hc] using this) hp
      simp [Instr.loadAt, AV.den, Instr.sureAddr, this]
    · rename_i m oo L g F S full own hb
      have g_ := ck_spec h
      clear h
      obtain ⟨hs, h⟩ := g_
      simp only [Bool.and_eq_true] at hs
      obtain rfl := Nat.eq_of_beq_eq_true hs.1
      obtain rfl := Nat.eq_of_beq_eq_true hs.2
      rw [nth_eq] at hb
      exact textsK_sound ht (hh.all id _ hb) h
    · exact h.elim
  · rename_i id n o c
    obtain ⟨⟨b, hb, hr⟩, h⟩ := h
    split at h
    · rename_i v hv
      refine ⟨v, h, ?_⟩
      rw [nth_eq] at hb
      obtain ⟨ty, fz, hc⟩ := hr w (hh.all id _ hb)
      have := run_loadVar_part ht (w := w) (n := n) (base := 0) (fun j x hj => by
        have := denL_get hj
        simpa [World.cell?, hc] using this) hv
      simp only [Nat.zero_add] at this
      simp [Instr.loadAt, AV.den, Instr.sureAddr, this]
    · exact h.elim
  · exact h.elim
theorem storeK_sound (ht : TabOk P tab) {w0 : World} {fp : HH} {H : HH} {w : World} (hh : HeapOk w0 fp H w) {t : TypeId} {p x : AV} {K : HH → Prop} (h : storeK tab H t p x K) :
    ∃ H' w', K H' ∧ (Instr.storeAt t p.den x.den).run P w = .ok () w' ∧ HeapOk w0 fp H' w' := by
  unfold storeK at h
  split at h
  · exact h.elim
  · rename_i i hi
    have g_ := ck_spec h
    clear h
    obtain ⟨hlo, h⟩ := g_
    simp only [Bool.and_eq_true] at hlo
    obtain ⟨hlen, hone⟩ := hlo
    have hlen := Nat.eq_of_beq_eq_true hlen
    have ho := ht.get hi
    have hcd : x.den.cells.toList = denL x.cells := AV.cells_den (one_or_agg hone)
    have hsz : x.den.cells.size = i.sz := by
      have : x.den.cells.toList.length = i.sz := by rw [hcd]; simpa using hlen
      simpa using this
    have hrun : ∀ a : Addr, (storeVar t a x.den).run P w = (storeCells a (denL x.cells)).run P w := by
      intro a
      simp [storeVar, ho.run_sizeOf, hsz, hcd]
    split at h
    · rename_i id n o
      split at h
      · rename_i m l ty own hb
        have g_ := ck_spec h
        clear h
        obtain ⟨hoo, rfl, h⟩ := g_
        simp only [Bool.and_eq_true] at hoo
        obtain ⟨rfl, hle⟩ := hoo
        have hle := Nat.le_of_ble_eq_true hle
        rw [nth_eq] at hb
        have hc := hh.hp.all id _ hb
        simp only [Cont.holds] at hc
        obtain ⟨w', hr, hs⟩ := run_storeCells P (denL x.cells) w n o 0 (denL l) ty hc (by simp; omega) (all_one_den hone)
        refine ⟨_, w', h, ?_, ?_⟩
        · simp [Instr.storeAt, AV.den, Instr.sureAddr, hrun, hr]
        · refine hh.turn hb rfl _ ?_ hs.os hs.tape hs.output hs.size hs.block
          simp only [Cont.holds]
          have := hs.at_
          rw [Nat.add_zero, ← splice_spliceV] at this
          exact this
      · rename_i m B N bs is ty own hb
        have g_ := ck_spec h
        clear h
        obtain ⟨rfl, rfl, h⟩ := g_
        rw [nth_eq] at hb
        obtain ⟨c, hc, hl, hcc⟩ := hh.hp.all id _ hb
        have go : ∀ (bs' : Nat → Bool) (is' : Nat → Int) (y : Value), x = .v y → o < N → (∀ q, q < N → (if q < B then Value.bool (bs' q) else .int .i64 (is' q)) = if q = o then y else (if q < B then Value.bool (bs q) else .int .i64 (is q))) →
            K (H.set id ⟨n, .mix B N bs' is' ty, true⟩) → ∃ H' w', K H' ∧ (Instr.storeAt t (AV.ptr id n o).den x.den).run P w = .ok () w' ∧ HeapOk w0 fp H' w' := by
          intro bs' is' y hx ho' hy hk
          have hx' : x.cells = [x] := by rw [hx]; rfl
          obtain ⟨w', hr, hs⟩ := run_storeCells P (denL x.cells) w n o 0 c ty hc (by rw [hx']; simp; omega) (all_one_den hone)
          refine ⟨_, w', hk, ?_, ?_⟩
          · simp [Instr.storeAt, AV.den, Instr.sureAddr, hrun, hr]
          · refine hh.turn hb rfl _ ?_ hs.os hs.tape hs.output hs.size hs.block
            refine ⟨_, hs.at_, by simp [hl], fun q hq => ?_⟩
            rw [spliceV_get _ _ _ _ (by rw [hx']; simp; omega), hx', hy q hq]
            simp only [denL_length, List.length_singleton, Nat.add_zero]
            by_cases hqo : q = o
            · subst hqo
              rw [if_pos (by omega), if_pos rfl]
              simp [denL, hx, AV.den]
            · rw [if_neg (by omega), if_neg hqo]
              exact hcc q hq
        unfold mixS at h
        split at h
        · rename_i b
          obtain ⟨h1, h2, h3⟩ := h
          refine go _ _ _ rfl h2 (fun q hq => ?_) h3
          by_cases hqo : q = o
          · subst hqo; simp [upd, h1]
          · simp [upd, hqo]
        · rename_i b
          obtain ⟨h1, h2, h3⟩ := h
          refine go _ _ _ rfl h2 (fun q hq => ?_) h3
          by_cases hqo : q = o
          · subst hqo; simp [upd, Nat.not_lt.2 h1]
          · simp [upd, hqo]
        · exact h.elim
      · exact h.elim
    · rename_i id n r sz j
      split at h
      · rename_i m N cs ty own hb
        have g_ := ck_spec h
        clear h
        obtain ⟨hoo, rfl, hr', h⟩ := g_
        simp only [Bool.and_eq_true] at hoo
        obtain ⟨⟨rfl, hsz'⟩, hle⟩ := hoo
        obtain rfl := Nat.eq_of_beq_eq_true hsz'
        have hle := Nat.le_of_ble_eq_true hle
        rw [nth_eq] at hb
        split at h
        · rename_i cs' hcs'
          obtain ⟨s1, s2, s3⟩ := setCols_row hcs'
          obtain ⟨c, hc, hcs, hcc⟩ := hh.hp.all id _ hb
          have hmul : r * cs.length + cs.length ≤ N * cs.length := by
            have : (r + 1) * cs.length ≤ N * cs.length := Nat.mul_le_mul_right _ hr'
            rw [Nat.add_mul] at this; omega
          obtain ⟨w', hr, hs⟩ := run_storeCells P (denL x.cells) w n (r * cs.length + j) 0 c ty hc (by simp; omega) (all_one_den hone)
          refine ⟨_, w', h, ?_, ?_⟩
          · simp [Instr.storeAt, AV.den, Instr.sureAddr, hrun, hr]
          · refine hh.turn hb rfl _ ?_ hs.os hs.tape hs.output hs.size hs.block
            refine ⟨_, hs.at_, by simp [hcs, s1], fun q hq => ?_⟩
            simp only [Nat.add_zero, s1]
            by_cases hqr : q = r
            · subst hqr
              rw [s2]
              intro k y hk
              have hk' : k < cs.length := by
                rcases Nat.lt_or_ge k cs.length with h | h
                · exact h
                · rw [List.getElem?_eq_none (by simp; omega)] at hk; cases hk
              rw [splice_get _ _ _ _ (by simp; omega)] at hk
              rw [spliceV_get _ _ _ _ (by simp; omega)]
              simp only [denL_length]
              by_cases hin : j ≤ k ∧ k < j + x.cells.length
              · rw [if_pos hin] at hk
                rw [if_pos (by omega), show q * cs.length + k - (q * cs.length + j) = k - j by omega]
                exact denL_get hk
              · rw [if_neg hin] at hk
                rw [if_neg (by omega)]
                exact hcc q hq k y hk
            · rw [s3 q hqr]
              intro k y hk
              have hk' : k < cs.length := by
                rcases Nat.lt_or_ge k cs.length with h | h
                · exact h
                · rw [List.getElem?_eq_none (by simp; exact h)] at hk; cases hk
              rw [spliceV_get _ _ _ _ (by simp; omega)]
              simp only [denL_length]
              have hne : ¬ (r * cs.length + j ≤ q * cs.length + k ∧ q * cs.length + k < r * cs.length + j + x.cells.length) := by
                rcases Nat.lt_or_gt_of_ne hqr with h1 | h1
                · have : (q + 1) * cs.length ≤ r * cs.length := Nat.mul_le_mul_right _ h1
                  rw [Nat.add_mul] at this; omega
                · have : (r + 1) * cs.length ≤ q * cs.length := Nat.mul_le_mul_right _ h1
                  rw [Nat.add_mul] at this; omega
              rw [if_neg hne]
              exact hcc q hq k y hk
        · exact h.elim
      · rename_i m l ty own hb
        have g_ := ck_spec h
        clear h
        obtain ⟨hoo, rfl, h⟩ := g_
        simp only [Bool.and_eq_true] at hoo
        obtain ⟨rfl, hle⟩ := hoo
        have hle := Nat.le_of_ble_eq_true hle
        rw [nth_eq] at hb
        have hc := hh.hp.all id _ hb
        simp only [Cont.holds] at hc
        obtain ⟨w', hr, hs⟩ := run_storeCells P (denL x.cells) w n (r * sz + j) 0 (denL l) ty hc (by simp; omega) (all_one_den hone)
        refine ⟨_, w', h, ?_, ?_⟩
        · simp [Instr.storeAt, AV.den, Instr.sureAddr, hrun, hr]
        · refine hh.turn hb rfl _ ?_ hs.os hs.tape hs.output hs.size hs.block
          simp only [Cont.holds]
          have := hs.at_
          rw [Nat.add_zero, ← splice_spliceV] at this
          exact this
      · exact h.elim
    · rename_i id n o r sz j
      split at h
      · rename_i m o' N cs S c0 ty own hb
        have g_ := ck_spec h
        clear h
        obtain ⟨hoo, rfl, rfl, hr', h⟩ := g_
        simp only [Bool.and_eq_true] at hoo
        obtain ⟨⟨rfl, hsz'⟩, hle⟩ := hoo
        obtain rfl := Nat.eq_of_beq_eq_true hsz'
        have hle := Nat.le_of_ble_eq_true hle
        rw [nth_eq] at hb
        split at h
        · rename_i cs' hcs'
          obtain ⟨s1, s2, s3⟩ := setCols_row hcs'
          obtain ⟨b1, b2, b3⟩ := hh.hp.all id _ hb
          obtain ⟨rfl, hNc, b4⟩ := b3 c0 ty rfl
          obtain ⟨hnS, c, hc, hcs⟩ := b4 (by omega)
          obtain ⟨_, c2, tyc, fz2, g2, hcc⟩ := b2 (by omega)
          have hcc2 : c2 = c := by
            obtain ⟨fz4, hc4, _⟩ := hc
            have := g2.symm.trans hc4
            simp only [Option.some.injEq, Obj.cells.injEq] at this
            simpa using this.1
          subst hcc2
          simp only [Nat.zero_add] at hcc
          have hmul : r * cs.length + cs.length ≤ c0 * cs.length := by
            have : (r + 1) * cs.length ≤ c0 * cs.length := Nat.mul_le_mul_right _ (by omega)
            rw [Nat.add_mul] at this; omega
          obtain ⟨w', hr, hs⟩ := run_storeCells P (denL x.cells) w n (r * cs.length + j) 0 c2 ty hc (by simp; omega) (all_one_den hone)
          refine ⟨_, w', h, ?_, ?_⟩
          · simp [Instr.storeAt, AV.den, Instr.sureAddr, hrun, hr]
          · refine hh.turnS hb rfl _ rfl ?_ n hnS hs.os hs.tape hs.output hs.size hs.block
            have hat2 := hs.at_
            obtain ⟨fz, hat3, hfz⟩ := hat2
            have hw3 : ∀ cap' ty', some (c0, ty) = some (cap', ty') → 0 = 0 ∧ N ≤ cap' ∧ (0 < cap' → n ∈ S ∧ ∃ c : List Value, Held w' n c ty' ∧ c.length = cap' * cs'.length) := fun cap' ty' e' => by
              cases e'
              exact ⟨rfl, hNc, fun _ => ⟨hnS, _, ⟨fz, hat3, hfz⟩, by simp [hcs, s1]⟩⟩
            refine ⟨fun k hk => by rw [hs.size]; exact b1 k hk, fun _ => ⟨hnS, _, _, _, hat3, fun q hq => ?_⟩, hw3⟩
            simp only [Nat.add_zero, Nat.zero_add, s1]
            have hqb : q * cs.length + cs.length ≤ c0 * cs.length := by
              have : (q + 1) * cs.length ≤ c0 * cs.length := Nat.mul_le_mul_right _ (by omega)
              rw [Nat.add_mul] at this; omega
            by_cases hqr : q = r
            · subst hqr
              rw [s2]
              intro k y hk
              have hk' : k < cs.length := by
                rcases Nat.lt_or_ge k cs.length with h | h
                · exact h
                · rw [List.getElem?_eq_none (by simp; omega)] at hk; cases hk
              rw [splice_get _ _ _ _ (by simp; omega)] at hk
              rw [spliceV_get _ _ _ _ (by simp; omega)]
              simp only [denL_length]
              by_cases hin : j ≤ k ∧ k < j + x.cells.length
              · rw [if_pos hin] at hk
                rw [if_pos (by omega), show q * cs.length + k - (q * cs.length + j) = k - j by omega]
                exact denL_get hk
              · rw [if_neg hin] at hk
                rw [if_neg (by omega)]
                exact hcc q hq k y hk
            · rw [s3 q hqr]
              intro k y hk
              have hk' : k < cs.length := by
                rcases Nat.lt_or_ge k cs.length with h | h
                · exact h
                · rw [List.getElem?_eq_none (by simp; exact h)] at hk; cases hk
              rw [spliceV_get _ _ _ _ (by simp; omega)]
              simp only [denL_length]
              have hne : ¬ (r * cs.length + j ≤ q * cs.length + k ∧ q * cs.length + k < r * cs.length + j + x.cells.length) := by
                rcases Nat.lt_or_gt_of_ne hqr with h1 | h1
                · have : (q + 1) * cs.length ≤ r * cs.length := Nat.mul_le_mul_right _ h1
                  rw [Nat.add_mul] at this; omega
                · have : (r + 1) * cs.length ≤ q * cs.length := Nat.mul_le_mul_right _ h1
                  rw [Nat.add_mul] at this; omega
              rw [if_neg hne]
              exact hcc q hq k y hk
        · exact h.elim
      · rename_i m α d o' l S c0 ty foc own hb
        have g_ := ck_spec h
        clear h
        obtain ⟨hoo, rfl, rfl, hr', h⟩ := g_
        simp only [Bool.and_eq_true] at hoo
        obtain ⟨⟨rfl, hsz'⟩, hle⟩ := hoo
        obtain rfl := Nat.eq_of_beq_eq_true hsz'
        have hle := Nat.le_of_ble_eq_true hle
        rw [nth_eq] at hb
        split at h
        · rename_i a ha
          obtain ⟨k1, k2, b1, b2, b3⟩ := hh.hp.all id _ hb
          have ha := k1.dec _ _ ha
          obtain ⟨rfl, hNc, b4⟩ := b3 c0 ty rfl
          obtain ⟨hnS, c, hc, hcs⟩ := b4 (by omega)
          obtain ⟨_, c2, tyc, fz2, g2, hcc⟩ := b2 (by omega)
          have hcc2 : c2 = c := by
            obtain ⟨fz4, hc4, _⟩ := hc
            have := g2.symm.trans hc4
            simp only [Option.some.injEq, Obj.cells.injEq] at this
            simpa using this.1
          subst hcc2
          simp only [Nat.zero_add] at hcc
          have hmul : r * d.sz + d.sz ≤ c0 * d.sz := by
            have : (r + 1) * d.sz ≤ c0 * d.sz := Nat.mul_le_mul_right _ (by omega)
            rw [Nat.add_mul] at this; omega
          obtain ⟨w', hr, hs⟩ := run_storeCells P (denL x.cells) w n (r * d.sz + j) 0 c2 ty hc (by simp; omega) (all_one_den hone)
          refine ⟨_, w', h, ?_, ?_⟩
          · simp [Instr.storeAt, AV.den, Instr.sureAddr, hrun, hr]
          · refine hh.turnS hb rfl _ rfl ?_ n hnS hs.os hs.tape hs.output hs.size hs.block
            have hat2 := hs.at_
            obtain ⟨fz, hat3, hfz⟩ := hat2
            have hw3 : ∀ cap' ty', some (c0, ty) = some (cap', ty') → 0 = 0 ∧ (l.set r a).length ≤ cap' ∧ (0 < cap' → n ∈ S ∧ ∃ c : List Value, Held w' n c ty' ∧ cap' * d.sz ≤ c.length) := fun cap' ty' e' => by
              cases e'
              exact ⟨rfl, by simpa using hNc, fun _ => ⟨hnS, _, ⟨fz, hat3, hfz⟩, by simp [hcs]⟩⟩
            refine ⟨k1, fun f fv e => (by cases e), fun k hk => by rw [hs.size]; exact b1 k hk, fun _ => ⟨hnS, _, _, _, hat3, fun q hq => ?_⟩, hw3⟩
            rw [List.length_set] at hq
            simp only [Nat.add_zero, Nat.zero_add]
            have hqb : q * d.sz + d.sz ≤ c0 * d.sz := by
              have : (q + 1) * d.sz ≤ c0 * d.sz := Nat.mul_le_mul_right _ (by omega)
              rw [Nat.add_mul] at this; omega
            intro k y hk
            have hk' : k < d.sz := by
              rcases Nat.lt_or_ge k d.sz with h | h
              · exact h
              · rw [List.getElem?_eq_none (by rw [k1.len]; omega)] at hk; cases hk
            rw [spliceV_get _ _ _ _ (by simp; omega)]
            simp only [denL_length]
            by_cases hqr : q = r
            · subst hqr
              have e1 : dAt (l.set q a) d.z q = a := by simp [dAt, hq]
              rw [e1] at hk
              obtain ⟨y', hy', hyy⟩ := denL_get' ha hk
              rw [hyy]
              rw [splice_get _ _ _ _ (by rw [k1.len]; omega)] at hy'
              by_cases hin : j ≤ k ∧ k < j + x.cells.length
              · rw [if_pos hin] at hy'
                rw [if_pos (by omega), show q * d.sz + k - (q * d.sz + j) = k - j by omega]
                exact denL_get hy'
              · rw [if_neg hin] at hy'
                rw [if_neg (by omega)]
                exact hcc q hq k y' hy'
            · have e1 : dAt (l.set r a) d.z q = dAt l d.z q := by simp [dAt, List.getElem?_set, Ne.symm hqr]
              rw [e1] at hk
              have hne : ¬ (r * d.sz + j ≤ q * d.sz + k ∧ q * d.sz + k < r * d.sz + j + x.cells.length) := by
                rcases Nat.lt_or_gt_of_ne hqr with h1 | h1
                · have : (q + 1) * d.sz ≤ r * d.sz := Nat.mul_le_mul_right _ h1
                  rw [Nat.add_mul] at this; omega
                · have : (r + 1) * d.sz ≤ q * d.sz := Nat.mul_le_mul_right _ h1
                  rw [Nat.add_mul] at this; omega
              rw [if_neg hne]
              exact hcc q hq k y hk
        · exact h.elim
      · exact h.elim
    · exact h.elim
end
theorem u8s_den : ∀ {l : List AV} {xs : List Int}, u8s l = some xs → denL l = xs.map (Value.int .u8)
  | [], xs, h => by cases h; rfl
  | x :: l, xs, h => by
    unfold u8s at h
    split at h
    · cases h; rename_i e; cases e
    · rename_i n l' e
      cases e
      split at h
      · rename_i r hr
        cases h
        simp [denL, AV.den, u8s_den hr]
      · cases h
    · cases h
theorem readK_sound {P : Program} {tab : Tab} (ht : TabOk P tab) {H : HH} {s d id n r sz len cap : Nat} {K : ByteArray → Prop} (hd : P.underlying d = some .string) (h : readK tab H s id n r sz len K) :
    ∃ t b, nth H id = some b ∧ K t ∧ ∀ w, b.c.holds w b.num → (convert s d (AV.sl id n r sz len cap).den).run P w = .ok (.string t) w := by
  unfold readK at h
  split at h
  · rename_i e eq hs
    split at h
    · rename_i eq' he
      have h1 := (ht.get hs).desc
      have h2 := (ht.get he).desc
      simp only [DescOk] at h1 h2
      have g_ := ck_spec h
      clear h
      obtain ⟨hsz, h⟩ := g_
      obtain rfl := Nat.eq_of_beq_eq_true hsz
      split at h
      · rename_i m l ty own hb
        obtain ⟨rfl, h⟩ := h
        split at h
        · rename_i xs hxs
          have g_ := ck_spec h
          clear h
          obtain ⟨hl, h⟩ := g_
          have hl := Nat.eq_of_beq_eq_true hl
          refine ⟨_, _, hb, h, fun w hc => ?_⟩
          simp only [Cont.holds] at hc
          have hden := u8s_den hxs
          have hload : (loadCells ⟨n, r * 1, none⟩ len).run P w = .ok (xs.map (Value.int .u8)).toArray w := by
            have := run_loadCells_list (P := P) w ⟨n, r * 1, none⟩ (xs.map (Value.int .u8)) (fun j x hj => by
              rw [addr_add, cell_of hc]
              rw [← hden, denL_map, List.map_take, List.map_drop, List.getElem?_take] at hj
              split at hj
              · rw [List.getElem?_drop] at hj
                simp only [denL_map]
                rw [Nat.mul_one]
                exact hj
              · cases hj)
            rw [List.length_map, hl] at this
            exact this
          simp only [AV.den]
          rw [run_convert_bytes_string w s d e _ len cap h1 h2 hd, run_bytesToString w _ len cap xs hload, foldl_push_bytes]
          simp [mkI, mkS]
        · exact h.elim
      · rename_i m N g ty own hb
        obtain ⟨rfl, hrl, h⟩ := h
        refine ⟨_, _, hb, h, fun w hc => ?_⟩
        obtain ⟨c, hc, hcs, hcc⟩ := hc
        have hload : (loadCells ⟨n, r * 1, none⟩ len).run P w = .ok ((((List.range len).map fun i => g (r + i)).map (Value.int .u8)).toArray) w := by
          have := run_loadCells_list (P := P) w ⟨n, r * 1, none⟩ (((List.range len).map fun i => g (r + i)).map (Value.int .u8)) (fun j x hj => by
            rw [addr_add, cell_of hc]
            rw [List.map_map, List.getElem?_map] at hj
            cases hx : (List.range len)[j]? with
            | none => rw [hx] at hj; cases hj
            | some y =>
              rw [hx] at hj
              have hy : y < len ∧ y = j := by
                have h1 := List.mem_of_getElem? hx
                have h2 := (List.getElem?_eq_some_iff.1 hx)
                obtain ⟨h3, h4⟩ := h2
                simp at h4 h1
                exact ⟨h1, h4.symm⟩
              obtain ⟨hy1, rfl⟩ := hy
              simp only [Option.map_some, Function.comp] at hj
              cases hj
              have := hcc (r + y) (by omega) 0 (.v (.int .u8 (g (r + y)))) (by simp [rowOf, Col.at])
              simpa [AV.den] using this)
          simpa using this
        simp only [AV.den]
        rw [run_convert_bytes_string w s d e _ len cap h1 h2 hd, run_bytesToString w _ len cap _ hload, foldl_push_bytes]
        simp [mkI, mkS]
      · rename_i m S c ty own hb
        obtain ⟨rfl, hrl, h⟩ := h
        refine ⟨_, _, hb, h, fun w hc => ?_⟩
        obtain ⟨c, fz, hc, hcl, _, _, _, _, hcc⟩ := hc
        have hlS : S.data.toList.length = S.size := Array.length_toList
        have hload : (loadCells ⟨n, r * 1, none⟩ len).run P w = .ok ((((S.data.toList.drop r).take len).map (fun b : UInt8 => (b.toNat : Int))).map (Value.int .u8)).toArray w := by
          have hll : ((((S.data.toList.drop r).take len).map (fun b : UInt8 => (b.toNat : Int))).map (Value.int .u8)).length = len := by
            rw [List.length_map, List.length_map, List.length_take, List.length_drop, hlS]; omega
          have := run_loadCells_list (P := P) w ⟨n, r * 1, none⟩ ((((S.data.toList.drop r).take len).map (fun b : UInt8 => (b.toNat : Int))).map (Value.int .u8)) (fun j x hj => by
            have hjl : j < len := by
              rcases Nat.lt_or_ge j len with h | h
              · exact h
              · rw [List.getElem?_eq_none (by rw [hll]; exact h)] at hj; cases hj
            rw [List.getElem?_map, List.getElem?_map, List.getElem?_take, if_pos hjl, List.getElem?_drop] at hj
            have hlt : r + j < S.data.toList.length := by rw [hlS]; omega
            rw [List.getElem?_eq_getElem hlt] at hj
            simp only [Option.map_some, Option.some.injEq] at hj
            subst hj
            rw [addr_add]
            have := hcc (r + j) (by omega)
            rw [List.getElem?_eq_getElem hlt] at this
            simp only [World.cell?, hc]
            simpa using this)
          rw [hll] at this
          exact this
        simp only [AV.den]
        rw [run_convert_bytes_string w s d e _ len cap h1 h2 hd, run_bytesToString w _ len cap _ hload, foldl_push_bytes]
        have e0 : ((fun n : Int => UInt8.ofNat n.toNat) ∘ fun b : UInt8 => (b.toNat : Int)) = _root_.id := by funext b; simp
        simp [subS, mkS, show r + len - r = len by omega, e0]
      · exact h.elim
    · exact h.elim
  · exact h.elim
theorem readO_sound {P : Program} {tab : Tab} (ht : TabOk P tab) {H : HH} {s d id n o r sz len cap : Nat} {a0 : Option Addr} {K : ByteArray → Prop} (hd : P.underlying d = some .string) (h : readO tab H s id n o r sz len K) :
    ∃ t b, nth H id = some b ∧ K t ∧ ∀ w, b.c.holds w b.num → (convert s d (AV.os id a0 n o r sz len cap).den).run P w = .ok (.string t) w := by
  unfold readO at h
  split at h
  · rename_i e eq hs
    split at h
    · rename_i eq' he
      have h1 := (ht.get hs).desc
      have h2 := (ht.get he).desc
      simp only [DescOk] at h1 h2
      have g_ := ck_spec h
      clear h
      obtain ⟨hsz, h⟩ := g_
      obtain rfl := Nat.eq_of_beq_eq_true hsz
      split at h
      · rename_i m o' N g S wr own hb
        obtain ⟨rfl, rfl, hrl, h⟩ := h
        refine ⟨_, _, hb, h, fun w hc => ?_⟩
        by_cases hl : len = 0
        · subst hl
          simp only [AV.den, if_true]
          cases a0 with
          | none => simp [convert, run_underlying h1, run_underlying hd, run_underlying h2, Conv.bytesToString, mkI, mkS]; rfl
          | some a =>
            have hload : (loadCells a 0).run P w = .ok (([] : List Int).map (Value.int .u8)).toArray w := by
              simpa using run_loadCells_list (P := P) w a [] (fun j x hj => by simp at hj)
            rw [run_convert_bytes_string w s d e _ 0 cap h1 h2 hd, run_bytesToString w _ 0 cap [] hload, foldl_push_bytes]
            simp [mkI, mkS]
        · obtain ⟨_, c, tyc, fz, hc, hcc⟩ := hc.2.1 (by omega)
          have hload : (loadCells ⟨n, o + r * 1, none⟩ len).run P w = .ok ((((List.range len).map fun i => g (r + i)).map (Value.int .u8)).toArray) w := by
            have := run_loadCells_list (P := P) w ⟨n, o + r * 1, none⟩ (((List.range len).map fun i => g (r + i)).map (Value.int .u8)) (fun j x hj => by
              rw [addr_add]
              rw [List.map_map, List.getElem?_map] at hj
              cases hx : (List.range len)[j]? with
              | none => rw [hx] at hj; cases hj
              | some y =>
                rw [hx] at hj
                have hy : y < len ∧ y = j := by
                  have h1 := List.mem_of_getElem? hx
                  have h2 := (List.getElem?_eq_some_iff.1 hx)
                  obtain ⟨h3, h4⟩ := h2
                  simp at h4 h1
                  exact ⟨h1, h4.symm⟩
                obtain ⟨hy1, rfl⟩ := hy
                simp only [Option.map_some, Function.comp] at hj
                cases hj
                have := hcc (r + y) (by omega) 0 (.v (.int .u8 (g (r + y)))) (by simp [rowOf, Col.at])
                simp only [World.cell?, hc]
                simpa [AV.den, Nat.add_assoc] using this)
            simpa using this
          simp only [AV.den, if_neg hl]
          rw [run_convert_bytes_string w s d e _ len cap h1 h2 hd, run_bytesToString w _ len cap _ hload, foldl_push_bytes]
          simp [mkI, mkS]
      · exact h.elim
    · exact h.elim
  · exact h.elim
theorem newCells_den (z : List AV) (n : Nat) : ((Array.range (n * z.length)).map (fun i => (denL z).toArray[i % z.length]!)) = (denL (newCells z n)).toArray := by
  apply Array.ext'
  simp only [Array.toList_map, Array.toList_range, newCells, denL_map, List.map_map]
  apply List.map_congr_left
  intro i hi
  simp only [List.mem_range] at hi
  have hpos : 0 < z.length := by
    rcases Nat.eq_zero_or_pos z.length with h | h
    · rw [h, Nat.mul_zero] at hi; omega
    · exact h
  have hlt : i % z.length < z.length := Nat.mod_lt _ hpos
  simp [getElem!_pos, hlt, List.getElem?_eq_getElem hlt]
@[simp] theorem newCells_length (z : List AV) (n : Nat) : (newCells z n).length = n * z.length := by simp [newCells]
end Go.Eng
