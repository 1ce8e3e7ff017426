/- The engine, fourth part: loads, stores, calls; regions in the order of the text. -/
import Derived.Test.YtbdifnmadaggaaaEngC
set_option linter.unusedSimpArgs false
namespace Go.Eng
open Go

theorem cell_of {w : World} {n : Nat} {c : Array Value} {ty : TypeId} {fz : Nat × Nat} (h : w.heap[n]? = some (.cells c ty fz)) (o : Nat) : w.cell? ⟨n, o, none⟩ = c[o]? := by
  simp [World.cell?, h]

theorem frozen_of {w : World} {n : Nat} {c : Array Value} {ty : TypeId} (h : w.heap[n]? = some (.cells c ty (0, 0))) (o : Nat) : w.frozen? ⟨n, o, none⟩ = false := by
  simp [World.frozen?, h]

theorem alloc_at (w : World) (o : Obj) : (w.alloc o).heap[w.heap.size]? = some o := by
  show (w.heap.push o)[w.heap.size]? = _
  simp

theorem addr_add (n o i : Nat) : (⟨n, o, none⟩ : Addr).add i = ⟨n, o + i, none⟩ := by
  unfold Addr.add; split <;> simp_all

theorem run_loadVar_part {P : Program} {tab : Tab} (ht : TabOk P tab) {w : World} {n base t o : Nat} {l : List AV} {v : AV} (hc : ∀ j x, l[j]? = some x → w.cell? ⟨n, base + j, none⟩ = some x.den) (h : partAV tab t l o = some v) :
    (loadVar t ⟨n, base + o, none⟩).run P w = .ok v.den w := by
  unfold partAV at h
  cases hi : tab.get t with
  | none => simp [hi] at h
  | some i =>
    simp only [hi] at h
    have ho := ht.get hi
    simp only [loadVar, Sem.run_bind, ho.run_isAgg, Result.andThen_ok]
    split at h
    · rename_i hagg
      split at h
      · rename_i hlen
        cases h
        have hll : (denL ((l.drop o).take i.sz)).length = i.sz := by simp; omega
        have := run_loadCells_list (P := P) w ⟨n, base + o, none⟩ (denL ((l.drop o).take i.sz)) (fun j x hj => by
          rw [addr_add]
          have hj' : j < i.sz := by
            rcases Nat.lt_or_ge j i.sz with h | h
            · exact h
            · rw [List.getElem?_eq_none (by rw [hll]; exact h)] at hj; cases hj
          have hg : (denL ((l.drop o).take i.sz))[j]? = (l[o + j]?).map AV.den := by
            rw [denL_map, List.getElem?_map, List.getElem?_take, if_pos hj', List.getElem?_drop]
          rw [hg] at hj
          cases hx : l[o + j]? with
          | none => simp [hx] at hj
          | some y =>
            simp [hx] at hj
            subst hj
            have := hc (o + j) y hx
            rwa [← Nat.add_assoc] at this)
        rw [hll] at this
        simp only [hagg, if_true, Sem.run_bind, ho.run_sizeOf, Result.andThen_ok, this, Sem.run_pure, AV.den]
      · cases h
    · rename_i hagg
      have := hc o v h
      simp [hagg, this]

def spliceV : List Value → Nat → List Value → List Value
  | l, _, [] => l
  | l, o, x :: xs => spliceV (l.set o x) (o + 1) xs

theorem splice_spliceV : ∀ (xs l : List AV) (o : Nat), denL (splice l o xs) = spliceV (denL l) o (denL xs)
  | [], l, o => rfl
  | x :: xs, l, o => by
    simp only [splice, denL, spliceV]
    rw [splice_spliceV xs]
    congr 1
    simp [denL_map, List.map_set]

@[simp] theorem spliceV_length : ∀ (xs l : List Value) (o : Nat), (spliceV l o xs).length = l.length
  | [], _, _ => rfl
  | x :: xs, l, o => by simp [spliceV, spliceV_length xs]

theorem spliceV_get : ∀ (xs l : List Value) (o k : Nat), o + xs.length ≤ l.length → (spliceV l o xs)[k]? = if o ≤ k ∧ k < o + xs.length then xs[k - o]? else l[k]?
  | [], l, o, k, _ => by
    simp only [spliceV, List.length_nil, Nat.add_zero]
    rw [if_neg (by omega)]
  | x :: xs, l, o, k, h => by
    simp only [List.length_cons] at h
    simp only [spliceV]
    rw [spliceV_get xs (l.set o x) (o + 1) k (by simp; omega)]
    simp only [List.length_cons]
    by_cases h1 : o + 1 ≤ k ∧ k < o + 1 + xs.length
    · rw [if_pos h1, if_pos (by omega)]
      obtain ⟨d, rfl⟩ : ∃ d, k = o + 1 + d := ⟨k - (o + 1), by omega⟩
      rw [show o + 1 + d - o = d + 1 by omega, List.getElem?_cons_succ]
      congr 1
      omega
    · rw [if_neg h1, List.getElem?_set]
      by_cases h2 : o = k
      · subst h2
        rw [if_pos rfl, if_pos (by omega), if_pos (by omega)]
        simp
      · rw [if_neg h2, if_neg (by omega)]

theorem splice_get (xs l : List AV) (o k : Nat) (h : o + xs.length ≤ l.length) : (splice l o xs)[k]? = if o ≤ k ∧ k < o + xs.length then xs[k - o]? else l[k]? := by
  induction xs generalizing l o with
  | nil =>
    simp only [splice, List.length_nil, Nat.add_zero]
    rw [if_neg (by omega)]
  | cons x xs ih =>
    simp only [List.length_cons] at h
    simp only [splice]
    rw [ih (l.set o x) (o + 1) (by simp; omega)]
    simp only [List.length_cons]
    by_cases h1 : o + 1 ≤ k ∧ k < o + 1 + xs.length
    · rw [if_pos h1, if_pos (by omega)]
      obtain ⟨d, rfl⟩ : ∃ d, k = o + 1 + d := ⟨k - (o + 1), by omega⟩
      rw [show o + 1 + d - o = d + 1 by omega, List.getElem?_cons_succ]
      congr 1
      omega
    · rw [if_neg h1, List.getElem?_set]
      by_cases h2 : o = k
      · subst h2
        rw [if_pos rfl, if_pos (by omega), if_pos (by omega)]
        simp
      · rw [if_neg h2, if_neg (by omega)]

theorem all_one_den {xs : List AV} (h : xs.all AV.one = true) : ∀ x ∈ denL xs, x.oneCell' = true := by
  intro x hx
  rw [denL_map] at hx
  obtain ⟨y, hy, rfl⟩ := List.mem_map.1 hx
  exact AV.one_den (List.all_eq_true.1 h y hy)

/-- What a store of some cells makes of the world. -/
structure Stored (w w' : World) (n : Nat) (c : List Value) (ty : TypeId) : Prop where
  at_ : w'.heap[n]? = some (.cells c.toArray ty (0, 0))
  os : w'.os = w.os
  tape : w'.tape = w.tape
  output : w'.output = w.output
  size : w'.heap.size = w.heap.size
  block : ∀ k, k ≠ n → w'.heap[k]? = w.heap[k]?

theorem run_storeCells (P : Program) : ∀ (xs : List Value) (w : World) (n o k : Nat) (c : List Value) (ty : TypeId), w.heap[n]? = some (.cells c.toArray ty (0, 0)) → o + k + xs.length ≤ c.length → (∀ x ∈ xs, x.oneCell' = true) →
    ∃ w', (storeCells ⟨n, o, none⟩ xs k).run P w = .ok () w' ∧ Stored w w' n (spliceV c (o + k) xs) ty
  | [], w, n, o, k, c, ty, h, _, _ => ⟨w, rfl, ⟨h, rfl, rfl, rfl, rfl, fun _ _ => rfl⟩⟩
  | x :: xs, w, n, o, k, c, ty, h, hl, hx => by
    simp only [List.length_cons] at hl
    have hcell : w.cell? ⟨n, o + k, none⟩ = some (c[o + k]'(by omega)) := by
      rw [cell_of h]; simp
    have hw : (w.setCell ⟨n, o + k, none⟩ x).heap[n]? = some (.cells (c.set (o + k) x).toArray ty (0, 0)) := by
      simp [World.setCell, Array.getElem?_modify, h]
    obtain ⟨w', hr, hs⟩ := run_storeCells P xs (w.setCell ⟨n, o + k, none⟩ x) n o (k + 1) (c.set (o + k) x) ty hw (by simp; omega) (fun y hy => hx y (by simp [hy]))
    refine ⟨w', ?_, ?_⟩
    · simp only [storeCells, Sem.run_bind, addr_add]
      rw [run_store P w _ _ _ (hx x (by simp))]
      simp only [hcell, frozen_of h, Bool.false_eq_true, if_false, Result.andThen_ok, hr]
    · refine ⟨?_, hs.os, hs.tape, hs.output, ?_, fun m hm => ?_⟩
      · have := hs.at_
        rw [← Nat.add_assoc] at this
        exact this
      · rw [hs.size]; simp
      · rw [hs.block m hm]; exact Go.RowKit.Below.heap_setCell _ _ _ _ (by simpa using hm)

section
variable {P : Program} {tab : Tab}

theorem loadK_sound (ht : TabOk P tab) {H : HH} {w : World} (hh : HoldsH H w) {t : TypeId} {p : AV} {K : AV → Prop} (h : loadK tab H t p K) : ∃ v, K v ∧ (Instr.loadAt t p.den).run P w = .ok v.den w := by
  unfold loadK at h
  split at h
  · rename_i id n o
    split at h
    · rename_i m l ty own hb
      obtain ⟨rfl, h⟩ := h
      split at h
      · rename_i v hv
        refine ⟨v, h, ?_⟩
        rw [nth_eq] at hb
        have hc := hh.all id _ hb
        simp only [Cont.holds] at hc
        have := run_loadVar_part ht (w := w) (n := n) (base := 0) (fun j x hj => by rw [cell_of hc]; simp [denL_get hj]) hv
        simp only [Nat.zero_add] at this
        simp [Instr.loadAt, AV.den, Instr.sureAddr, this]
      · exact h.elim
    · exact h.elim
  · rename_i id n i sz j
    split at h
    · rename_i m N sz' f ty own hb
      have g_ := ck_spec h
      clear h
      obtain ⟨hs, rfl, hi, h⟩ := g_
      obtain rfl := Nat.eq_of_beq_eq_true hs
      split at h
      · rename_i v hv
        refine ⟨v, h, ?_⟩
        rw [nth_eq] at hb
        obtain ⟨c, hc, hcs, hcc⟩ := hh.all id _ hb
        have := run_loadVar_part ht (w := w) (n := n) (base := i * sz) (fun k x hk => by rw [cell_of hc]; exact (hcc i hi).2 k x hk) hv
        simp [Instr.loadAt, AV.den, Instr.sureAddr, this]
      · exact h.elim
    · exact h.elim
  · exact h.elim

theorem storeK_sound (ht : TabOk P tab) {w0 : World} {fp : HH} {H : HH} {w : World} (hh : HeapOk w0 fp H w) {t : TypeId} {p x : AV} {K : HH → Prop} (h : storeK tab H t p x K) :
    ∃ H' w', K H' ∧ (Instr.storeAt t p.den x.den).run P w = .ok () w' ∧ HeapOk w0 fp H' w' := by
  unfold storeK at h
  split at h
  · exact h.elim
  · rename_i i hi
    have g_ := ck_spec h
    clear h
    obtain ⟨hlo, h⟩ := g_
    simp only [Bool.and_eq_true] at hlo
    obtain ⟨hlen, hone⟩ := hlo
    have hlen := Nat.eq_of_beq_eq_true hlen
    have ho := ht.get hi
    have hcd : x.den.cells.toList = denL x.cells := AV.cells_den (one_or_agg hone)
    have hsz : x.den.cells.size = i.sz := by
      have : x.den.cells.toList.length = i.sz := by rw [hcd]; simpa using hlen
      simpa using this
    have hrun : ∀ a : Addr, (storeVar t a x.den).run P w = (storeCells a (denL x.cells)).run P w := by
      intro a
      simp [storeVar, ho.run_sizeOf, hsz, hcd]
    split at h
    · rename_i id n o
      split at h
      · rename_i m l ty own hb
        have g_ := ck_spec h
        clear h
        obtain ⟨hoo, rfl, h⟩ := g_
        simp only [Bool.and_eq_true] at hoo
        obtain ⟨rfl, hle⟩ := hoo
        have hle := Nat.le_of_ble_eq_true hle
        rw [nth_eq] at hb
        have hc := hh.hp.all id _ hb
        simp only [Cont.holds] at hc
        obtain ⟨w', hr, hs⟩ := run_storeCells P (denL x.cells) w n o 0 (denL l) ty hc (by simp; omega) (all_one_den hone)
        refine ⟨_, w', h, ?_, ?_⟩
        · simp [Instr.storeAt, AV.den, Instr.sureAddr, hrun, hr]
        · refine hh.turn hb rfl _ ?_ hs.os hs.tape hs.output hs.size hs.block
          simp only [Cont.holds]
          have := hs.at_
          rw [Nat.add_zero, ← splice_spliceV] at this
          exact this
      · exact h.elim
    · rename_i id n r sz j
      split at h
      · rename_i m N sz' f ty own hb
        have g_ := ck_spec h
        clear h
        obtain ⟨hoo, rfl, hr', h⟩ := g_
        simp only [Bool.and_eq_true] at hoo
        obtain ⟨⟨rfl, hsz'⟩, hle⟩ := hoo
        obtain rfl := Nat.eq_of_beq_eq_true hsz'
        have hle := Nat.le_of_ble_eq_true hle
        rw [nth_eq] at hb
        obtain ⟨c, hc, hcs, hcc⟩ := hh.hp.all id _ hb
        have hlen' := (hcc r hr').1
        have hmul : r * sz + sz ≤ N * sz := by
          have : (r + 1) * sz ≤ N * sz := Nat.mul_le_mul_right _ hr'
          rw [Nat.add_mul] at this; omega
        obtain ⟨w', hr, hs⟩ := run_storeCells P (denL x.cells) w n (r * sz + j) 0 c.toList ty (by simpa using hc) (by simp; omega) (all_one_den hone)
        refine ⟨_, w', h, ?_, ?_⟩
        · simp [Instr.storeAt, AV.den, Instr.sureAddr, hrun, hr]
        · refine hh.turn hb rfl _ ?_ hs.os hs.tape hs.output hs.size hs.block
          refine ⟨_, hs.at_, by simp [hcs], fun q hq => ?_⟩
          simp only [Nat.add_zero]
          by_cases hqr : q = r
          · subst hqr
            rw [if_pos rfl]
            refine ⟨by simp [hlen'], fun k y hk => ?_⟩
            have hk' : k < sz := by
              rcases Nat.lt_or_ge k sz with h | h
              · exact h
              · rw [List.getElem?_eq_none (by simp; omega)] at hk; cases hk
            rw [splice_get _ _ _ _ (by omega)] at hk
            rw [List.getElem?_toArray, spliceV_get _ _ _ _ (by simp; omega)]
            simp only [denL_length]
            by_cases hin : j ≤ k ∧ k < j + x.cells.length
            · rw [if_pos hin] at hk
              rw [if_pos (by omega), show q * sz + k - (q * sz + j) = k - j by omega]
              exact denL_get hk
            · rw [if_neg hin] at hk
              rw [if_neg (by omega)]
              have := (hcc q hq).2 k y hk
              simpa using this
          · rw [if_neg hqr]
            refine ⟨(hcc q hq).1, fun k y hk => ?_⟩
            have hk' : k < sz := by
              rcases Nat.lt_or_ge k sz with h | h
              · exact h
              · rw [List.getElem?_eq_none (by rw [(hcc q hq).1]; exact h)] at hk; cases hk
            rw [List.getElem?_toArray, spliceV_get _ _ _ _ (by simp; omega)]
            simp only [denL_length]
            have hne : ¬ (r * sz + j ≤ q * sz + k ∧ q * sz + k < r * sz + j + x.cells.length) := by
              rcases Nat.lt_or_gt_of_ne hqr with h1 | h1
              · have : (q + 1) * sz ≤ r * sz := Nat.mul_le_mul_right _ h1
                rw [Nat.add_mul] at this; omega
              · have : (r + 1) * sz ≤ q * sz := Nat.mul_le_mul_right _ h1
                rw [Nat.add_mul] at this; omega
            rw [if_neg hne]
            have := (hcc q hq).2 k y hk
            simpa using this
      · exact h.elim
    · exact h.elim
end

/-- One operation. -/
def opK (tab : Tab) (tbl : Tbl) (T : TT) (H : HH) (o : Op) (K : AV → HH → Prop) : Prop :=
  match o with
  | .pick c a b => evalK T c fun cv =>
    match cv with
    | .v (.bool t) => br t (evalK T a fun v => K v H) (evalK T b fun v => K v H)
    | _ => False
  | .alloc e =>
    match tab.get e with
    | some i => ∀ n, K (.ptr H.length n 0) (H ++ [⟨n, .cells i.zero.cells e, true⟩])
    | none => False
  | .box e x => evalK T x fun v => ck (v.cells.all AV.one) <| ∀ n, K (.ptr H.length n 0) (H ++ [⟨n, .cells v.cells e, true⟩])
  | .load t p => evalK T p fun pv => loadK tab H t pv fun v => K v H
  | .store t p x => evalK T p fun pv => evalK T x fun xv => storeK tab H t pv xv fun H' => K (.v undef) H'
  | .call c =>
    match c.callee with
    | .value f => evalK T f fun fv =>
      match fv with
      | .fn (.func g) first cap => evalL T c.args.toList fun as =>
        match tbl.get g with
        | some (.pure F) => (match F (first ++ as ++ cap) with | some v => K v H | none => False)
        | some (.gen h) => h (first ++ as ++ cap) H K
        | none => False
      | _ => False
    | _ => pureK tab T (.call c) fun v => K v H
  | o => pureK tab T o fun v => K v H

theorem wp_value {P : Program} {o : Oper} {a : Act} {w w' : World} {v : Value} {next : Act → World → Prop} {Q : Exit → Act → World → Prop} (h : (execOp a.eval o).run P w = .ok (.value v) w') (hn : next (a.put o.dst v) w') : o.wp P a w next Q := by
  unfold Oper.wp; rw [h]; exact hn

/-- Does an operation leave all that was there as it was? -/
def quiet (tbl : Tbl) (T : TT) (o : Op) : Bool :=
  match o with
  | .alloc _ | .box .. => true
  | .call c =>
    match c.callee with
    | .value f =>
      match evalO T f with
      | some (.fn (.func g) _ _) => (match tbl.get g with | some (.pure _) => true | _ => false)
      | _ => false
    | _ => false
  | _ => false

theorem frm_alloc (w : World) (o : Obj) : Frm [] w (w.alloc o) := ⟨rfl, rfl, rfl, by simp, fun k hk _ => Go.RowKit.Below.heap_alloc _ _ _ hk⟩

theorem opK_sound {P : Program} {tab : Tab} {tbl : Tbl} (ht : TabOk P tab) (hb : TblOk P tbl) {T : TT} {H : HH} {a : Act} {w w0 : World} {fp : HH} {o : Oper} {K : AV → HH → Prop} {Q : Exit → Act → World → Prop}
    (hm : Matches T a.tmps) (hh : HeapOk w0 fp H w) (h : opK tab tbl T H o.op K) : o.wp P a w (fun a' w' => ∃ v H', K v H' ∧ HeapOk w0 fp H' w' ∧ a' = a.put o.dst v.den ∧ (quiet tbl T o.op = true → Frm [] w w')) Q := by
  have pure_case : ∀ {K' : AV → Prop}, pureK tab T o.op K' → (∀ v, K' v → K v H) → o.wp P a w (fun a' w' => ∃ v H', K v H' ∧ HeapOk w0 fp H' w' ∧ a' = a.put o.dst v.den ∧ (quiet tbl T o.op = true → Frm [] w w')) Q := by
    intro K' h hk
    obtain ⟨v, hv, hr⟩ := pureK_sound ht hm h
    exact wp_value (hr w) ⟨v, H, hk v hv, hh, rfl, fun _ => Frm.refl _ _⟩
  unfold opK at h
  split at h
  · rename_i c x y ho
    obtain ⟨cv, hc, h⟩ := evalK_sound hm h
    split at h
    · rename_i t
      cases t
      · obtain ⟨v, hv, h⟩ := evalK_sound hm h
        exact wp_value (v := v.den) (w' := w) (by simp [execOp, ho, hc, AV.den, asBool, hv]) ⟨v, H, h, hh, rfl, fun _ => Frm.refl _ _⟩
      · obtain ⟨v, hv, h⟩ := evalK_sound hm h
        exact wp_value (v := v.den) (w' := w) (by simp [execOp, ho, hc, AV.den, asBool, hv]) ⟨v, H, h, hh, rfl, fun _ => Frm.refl _ _⟩
    · exact h.elim
  · rename_i e ho
    split at h
    · rename_i i hi
      have hz := (ht.get hi).run_zero w
      have hzc := AV.cells_den (ht.get hi).zok
      refine wp_value (v := .pointer (some ⟨w.heap.size, 0, none⟩)) (w' := w.alloc (.cells i.zero.den.cells e)) ?_ ⟨_, _, h w.heap.size, hh.alloc _ _ ?_, rfl, fun _ => frm_alloc _ _⟩
      · simp [execOp, ho, Instr.alloc, hz, newVar, newRow]
      · have : (denL i.zero.cells).toArray = i.zero.den.cells := by rw [← hzc]
        simp only [Cont.holds, this]
        exact alloc_at _ _
    · exact h.elim
  · rename_i e x ho
    obtain ⟨v, hv, h⟩ := evalK_sound hm h
    have g_ := ck_spec h
    clear h
    obtain ⟨hone, h⟩ := g_
    have hzc := AV.cells_den (one_or_agg hone)
    refine wp_value (v := .pointer (some ⟨w.heap.size, 0, none⟩)) (w' := w.alloc (.cells v.den.cells e)) ?_ ⟨_, _, h w.heap.size, hh.alloc _ _ ?_, rfl, fun _ => frm_alloc _ _⟩
    · simp [execOp, ho, Instr.box, hv, newVar, newRow]
    · have : (denL v.cells).toArray = v.den.cells := by rw [← hzc]
      simp only [Cont.holds, this]
      exact alloc_at _ _
  · rename_i t p ho
    obtain ⟨pv, hp, h⟩ := evalK_sound hm h
    obtain ⟨v, hv, hr⟩ := loadK_sound ht hh.hp h
    exact wp_value (v := v.den) (w' := w) (by simp [execOp, ho, hp, hr]) ⟨v, H, hv, hh, rfl, fun _ => Frm.refl _ _⟩
  · rename_i t p x ho
    obtain ⟨pv, hp, h⟩ := evalK_sound hm h
    obtain ⟨xv, hx, h⟩ := evalK_sound hm h
    obtain ⟨H', w', hk, hr, hh'⟩ := storeK_sound ht hh h
    unfold Oper.wp
    have : (execOp a.eval o).run P w = .ok .skip w' := by simp [execOp, ho, hp, hx, hr]
    rw [this]
    exact ⟨_, H', hk, hh', rfl, fun hq => by rw [ho] at hq; simp [quiet] at hq⟩
  · rename_i c ho
    split at h
    · rename_i f hf
      unfold evalK at h
      split at h
      rotate_left
      · exact h.elim
      rename_i fv hfe
      have hfv := evalO_sound hm hfe
      split at h
      · rename_i g first cap
        obtain ⟨as, has, h⟩ := evalL_sound hm h
        have e : c.args.map a.eval = (denL as).toArray := by apply Array.ext'; rw [Array.toList_map, has]
        have hrun : Enters P g → (execOp a.eval o).run P w = .ok (.enter g (denL (first ++ as ++ cap)).toArray) w := by
          intro hen
          simp only [execOp, ho, resolve, hf, hfv, AV.den, Deferred.ofValue, Sem.run_bind, Sem.run_pure, Result.andThen_ok, invoke, e]
          rw [hen]
          simp [denL_append]
        split at h
        · rename_i F hg
          have hok : POk P g F := hb.get hg
          split at h
          · rename_i v hv
            unfold Oper.wp
            rw [hrun hok.enters]
            refine (hok.calls _ v w hv).mono fun e w' hq => ?_
            obtain ⟨rfl, hx⟩ := hq
            exact ⟨v, H, h, hh.pure hx, rfl, fun _ => hx⟩
          · exact h.elim
        · rename_i hd hg
          have hok : HOk P g hd := hb.get hg
          unfold Oper.wp
          rw [hrun hok.enters]
          refine (hok.calls _ H K w hh.hp h).mono fun e w' hq => ?_
          obtain ⟨v, H', rfl, hk, hx⟩ := hq
          refine ⟨v, H', hk, hh.ext hx, rfl, fun hq => ?_⟩
          rw [ho] at hq
          simp only [quiet, hf] at hq
          have : evalO T f = some (.fn (.func g) first cap) := hfe
          rw [this] at hq
          simp only [hg] at hq
          cases hq
        · exact h.elim
      · exact h.elim
    · rw [← ho] at h
      exact pure_case h fun v hv => hv
  · rename_i o' _ _ _ _ _ _
    exact pure_case h fun v hv => hv
end Go.Eng
