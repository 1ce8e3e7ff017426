/- Lists that are sorted by the library. -/
import Derived.Test.YtkjnkepdhbpnbaaY8
import Derived.Shelf.SlSortCmp.NoneTotal
namespace Go.Eng
open Go Go.Sp Go.Sort Go.Proofs

/-- Nothing old has turned: some was drawn, some blocks were laid. -/
theorem frm_grown {w w' : World} (h : Frm [] w w') (hd : w.drawn ≤ w'.drawn) : ∃ q os, w' = grow (w.drewN q) os := by
  refine ⟨w'.drawn - w.drawn, w'.heap.extract w.heap.size w'.heap.size, ?_⟩
  have hh : w'.heap = w.heap ++ w'.heap.extract w.heap.size w'.heap.size := by
    apply Array.ext_getElem?
    intro k
    rw [Array.getElem?_append]
    split
    · rename_i hk; exact h.block k hk (by simp)
    · rename_i hk
      rw [Array.getElem?_extract]
      have := h.size
      by_cases hk2 : k < w'.heap.size
      · rw [if_pos (by omega), show w.heap.size + (k - w.heap.size) = k by omega]
      · rw [Array.getElem?_eq_none (by omega)]
        split
        · rw [Array.getElem?_eq_none (by omega)]
        · rfl
  obtain ⟨h1, h2, h3, h4, h5⟩ := w'
  obtain ⟨g1, g2, g3, g4, g5⟩ := w
  have e1 := h.os
  have e2 := h.tape
  have e3 := h.output
  simp only at e1 e2 e3 hd hh
  subst e1 e2 e3
  simp only [grow, World.drewN]
  have : g3 + (h3 - g3) = h3 := by omega
  rw [this]
  congr

theorem sortWorld_old {w : World} {enc : ByteArray → Value} {n m : Nat} {d : Array ByteArray} {os : Array Obj} {k : Nat} (hk : k < w.heap.size) (hn : k ≠ n) : (sortWorld enc w n 0 m d os).heap[k]? = w.heap[k]? := by
  unfold sortWorld
  rw [heap_grow_old _ _ (by rw [Go.Sort.size_putRow]; exact hk)]
  simp [putRow, mapBlock, Array.getElem?_modify, Ne.symm hn, Sort.ahead]

/-- A list of texts as the rows that the library sorts. -/
theorem sort_ext {H : HH} {w : World} {id n N c0 q : Nat} {ty : TypeId} {g g' : Nat → ByteArray} {S : List Nat} {d : Array ByteArray} {os : Array Obj} (hw : HoldsH H w) (hb : H[id]? = some ⟨n, .lst 0 N [.strs g] S (some (c0, ty)), true⟩) (hN : 0 < N) (hd : d.size = N) (hg : ∀ i, i < N → g' i = d[i]!) :
    Ext H (H.set id ⟨n, .lst 0 N [.strs g'] S (some (c0, ty)), true⟩) w (sortWorld Value.string w n 0 q d os) := by
  obtain ⟨h1, h2, h3⟩ := hw.all id _ hb
  obtain ⟨_, hNc, h4⟩ := h3 c0 ty rfl
  obtain ⟨hnS, c, ⟨fz, hc, hfz⟩, hcl⟩ := h4 (by omega)
  have hlt : n < w.heap.size := lt_of_some hc
  simp only [List.length_singleton, Nat.mul_one] at hcl
  have hput : (putRow Value.string (Sort.ahead w q) n 0 d).heap[n]? = some (.cells (putCells Value.string 0 d c.toArray) ty fz) := by
    simp only [putRow, mapBlock, Sort.ahead, Array.getElem?_modify, if_true]
    rw [hc]; rfl
  have hlist : (putCells Value.string 0 d c.toArray).toList.toArray = putCells Value.string 0 d c.toArray := by simp
  have hlen : (putCells Value.string 0 d c.toArray).toList.length = c0 := by simp [putCells, hcl]
  have hget : ∀ i, i < N → (putCells Value.string 0 d c.toArray).toList[i]? = some (.string (d[i]!)) := fun i hi => by
    rw [Array.getElem?_toList]
    simp only [putCells, Array.getElem?_mapIdx]
    have hic : i < c.length := by omega
    simp [hic, show i < d.size by omega]
  have hheld : Held (putRow Value.string (Sort.ahead w q) n 0 d) n (putCells Value.string 0 d c.toArray).toList ty := ⟨fz, by rw [hlist]; exact hput, hfz.imp (fun h => h) (fun h => by rw [hlen]; omega)⟩
  have t1 : HeapOk w H (H.set id ⟨n, .lst 0 N [.strs g'] S (some (c0, ty)), true⟩) (putRow Value.string (Sort.ahead w q) n 0 d) := by
    refine (HeapOk.enter hw).turnS hb rfl _ rfl ?_ n hnS rfl rfl rfl (by simp [Sort.ahead]) (fun k hk => by simp [putRow, mapBlock, Sort.ahead, Array.getElem?_modify, Ne.symm hk]) (hdr := Dr.of_le (by simp [Sort.ahead]))
    refine ⟨fun k hk => by simpa [Sort.ahead] using h1 k hk, fun _ => ⟨hnS, _, ty, fz, by rw [hlist]; exact hput, fun i hi j x hx => ?_⟩, fun cap t e => ?_⟩
    · cases j with
      | zero =>
        simp [rowOf, Col.at] at hx
        subst hx
        simp only [List.length_singleton, Nat.mul_one, Nat.zero_add, Nat.add_zero]
        rw [hget i hi]
        simp [AV.den, hg i hi]
      | succ j => simp [rowOf] at hx
    · cases e
      exact ⟨rfl, hNc, fun _ => ⟨hnS, _, hheld, by rw [hlen]; simp⟩⟩
  refine (t1.pure (w' := sortWorld Value.string w n 0 q d os) ⟨rfl, rfl, rfl, by simp [sortWorld], fun k hk _ => ?_, Dr.of_le (Nat.le_refl _)⟩).toExt
  exact heap_grow_old _ _ hk

/-- What the library asks of a list of texts. -/
theorem lst_holds {w : World} {n N c0 : Nat} {ty : TypeId} {g : Nat → ByteArray} {S : List Nat} (h : (Cont.lst 0 N [.strs g] S (some (c0, ty))).holds w n) {d : Array ByteArray} (hd : d.size = N) (hN : 0 < N) (hg : ∀ i, i < N → d[i]! = g i) : Holds Value.string w n 0 d ∧ n < w.heap.size := by
  obtain ⟨h1, h2, h3⟩ := h
  obtain ⟨_, hNc, h4⟩ := h3 c0 ty rfl
  obtain ⟨hnS, c, hc, hcl⟩ := h4 (by omega)
  obtain ⟨_, c2, tyc, fz2, g2, g3⟩ := h2 hN
  simp only [List.length_singleton, Nat.mul_one] at hcl
  refine ⟨fun j hj => ⟨?_, ?_⟩, h1 n hnS⟩
  · have := g3 j (by omega) 0 (.v (.string (g j))) (by simp [rowOf, Col.at])
    simp only [List.length_singleton, Nat.mul_one, Nat.zero_add, Nat.add_zero] at this
    rw [hg j (by omega)]
    simp only [World.cell?, g2, Nat.zero_add]
    simpa [AV.den] using this
  · exact frozen_of hc _ (by omega)
end Go.Eng

