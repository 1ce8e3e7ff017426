import Derived.Test.YtjnehpljhnlbfaaY8
import Derived.Shelf.Sort.Plain
import Derived.Shelf.Slices.In.SortNone
namespace Go.Sp
open Go
def sortI (l : List Int) : List Int := l.mergeSort fun x y => decide (x ≤ y)
theorem sortI_perm (l : List Int) : (sortI l).Perm l := List.mergeSort_perm l _
@[simp] theorem sortI_len (l : List Int) : (sortI l).length = l.length := (sortI_perm l).length_eq
theorem sortI_sorted (l : List Int) : (sortI l).Pairwise fun x y => x ≤ y := by
  have := List.pairwise_mergeSort (le := fun x y : Int => decide (x ≤ y)) (fun a b c h1 h2 => by
      simp only [decide_eq_true_eq] at *; omega) (fun a b => by
      simp only [Bool.or_eq_true, decide_eq_true_eq]; omega) l
  exact this.imp fun h => by simpa using h
theorem sortI_one {l m : List Int} (hp : l.Perm m) (hs : l.Pairwise fun x y => x ≤ y) : l = sortI m :=
  List.Perm.eq_of_pairwise (le := fun x y : Int => x ≤ y) (fun a b _ _ h1 h2 => Int.le_antisymm h1 h2) hs (sortI_sorted m) (hp.trans (sortI_perm m).symm)
theorem sortI_eq {l m : List Int} (hp : l.Perm m) : sortI l = sortI m := sortI_one ((sortI_perm l).trans hp) (sortI_sorted l)
end Go.Sp
namespace Go.Eng
open Go Go.Sp Go.Sort Go.Proofs
def sortWI (w : World) (n q : Nat) (d : Array Int) (os : Array Obj) : World := grow (putRow (Value.int .i64) (Sort.ahead w q) n 0 d) os
theorem sortWI_old {w : World} {n m : Nat} {d : Array Int} {os : Array Obj} {k : Nat} (hk : k < w.heap.size) (hn : k ≠ n) : (sortWI w n m d os).heap[k]? = w.heap[k]? := by
  unfold sortWI
  rw [heap_grow_old _ _ (by rw [Go.Sort.size_putRow]; exact hk)]
  simp [putRow, mapBlock, Array.getElem?_modify, Ne.symm hn, Sort.ahead]
theorem sort_extI {H : HH} {w : World} {id n N c0 q : Nat} {ty : TypeId} {g g' : Nat → Int} {S : List Nat} {d : Array Int} {os : Array Obj} (hw : HoldsH H w) (hb : H[id]? = some ⟨n, .lst 0 N [.ints .i64 g] S (some (c0, ty)), true⟩) (hN : 0 < N) (hd : d.size = N) (hg : ∀ i, i < N → g' i = d[i]!) :
    Ext H (H.set id ⟨n, .lst 0 N [.ints .i64 g'] S (some (c0, ty)), true⟩) w (sortWI w n q d os) := by
  obtain ⟨h1, h2, h3⟩ := hw.all id _ hb
  obtain ⟨_, hNc, h4⟩ := h3 c0 ty rfl
  obtain ⟨hnS, c, ⟨fz, hc, hfz⟩, hcl⟩ := h4 (by omega)
  have hlt : n < w.heap.size := lt_of_some hc
  simp only [List.length_singleton, Nat.mul_one] at hcl
  have hput : (putRow (Value.int .i64) (Sort.ahead w q) n 0 d).heap[n]? = some (.cells (putCells (Value.int .i64) 0 d c.toArray) ty fz) := by
    simp only [putRow, mapBlock, Sort.ahead, Array.getElem?_modify, if_true]
    rw [hc]; rfl
  have hlist : (putCells (Value.int .i64) 0 d c.toArray).toList.toArray = putCells (Value.int .i64) 0 d c.toArray := by simp
  have hlen : (putCells (Value.int .i64) 0 d c.toArray).toList.length = c0 := by simp [putCells, hcl]
  have hget : ∀ i, i < N → (putCells (Value.int .i64) 0 d c.toArray).toList[i]? = some (.int .i64 (d[i]!)) := fun i hi => by
    rw [Array.getElem?_toList]
    simp only [putCells, Array.getElem?_mapIdx]
    have hic : i < c.length := by omega
    simp [hic, show i < d.size by omega]
  have hheld : Held (putRow (Value.int .i64) (Sort.ahead w q) n 0 d) n (putCells (Value.int .i64) 0 d c.toArray).toList ty := ⟨fz, by rw [hlist]; exact hput, hfz.imp (fun h => h) (fun h => by rw [hlen]; omega)⟩
  have t1 : HeapOk w H (H.set id ⟨n, .lst 0 N [.ints .i64 g'] S (some (c0, ty)), true⟩) (putRow (Value.int .i64) (Sort.ahead w q) n 0 d) := by
    refine (HeapOk.enter hw).turnS hb rfl _ rfl ?_ n hnS rfl rfl rfl (by simp [Sort.ahead]) (fun k hk => by simp [putRow, mapBlock, Sort.ahead, Array.getElem?_modify, Ne.symm hk]) (hdr := Dr.of_le (by simp [Sort.ahead]))
    refine ⟨fun k hk => by simpa [Sort.ahead] using h1 k hk, fun _ => ⟨hnS, _, ty, fz, by rw [hlist]; exact hput, fun i hi j x hx => ?_⟩, fun cap t e => ?_⟩
    · cases j with
      | zero =>
        simp [rowOf, Col.at] at hx
        subst hx
        simp only [List.length_singleton, Nat.mul_one, Nat.zero_add, Nat.add_zero]
        rw [hget i hi]
        simp [AV.den, hg i hi]
      | succ j => simp [rowOf] at hx
    · cases e
      exact ⟨rfl, hNc, fun _ => ⟨hnS, _, hheld, by rw [hlen]; simp⟩⟩
  refine (t1.pure (w' := sortWI w n q d os) ⟨rfl, rfl, rfl, by simp [sortWI], fun k hk _ => ?_, Dr.of_le (Nat.le_refl _)⟩).toExt
  exact heap_grow_old _ _ hk
theorem lst_holdsI {w : World} {n N c0 : Nat} {ty : TypeId} {g : Nat → Int} {S : List Nat} (h : (Cont.lst 0 N [.ints .i64 g] S (some (c0, ty))).holds w n) {d : Array Int} (hd : d.size = N) (hN : 0 < N) (hg : ∀ i, i < N → d[i]! = g i) : Holds (Value.int .i64) w n 0 d ∧ n < w.heap.size := by
  obtain ⟨h1, h2, h3⟩ := h
  obtain ⟨_, hNc, h4⟩ := h3 c0 ty rfl
  obtain ⟨hnS, c, hc, hcl⟩ := h4 (by omega)
  obtain ⟨_, c2, tyc, fz2, g2, g3⟩ := h2 hN
  simp only [List.length_singleton, Nat.mul_one] at hcl
  refine ⟨fun j hj => ⟨?_, ?_⟩, h1 n hnS⟩
  · have := g3 j (by omega) 0 (.v (.int .i64 (g j))) (by simp [rowOf, Col.at])
    simp only [List.length_singleton, Nat.mul_one, Nat.zero_add, Nat.add_zero] at this
    rw [hg j (by omega)]
    simp only [World.cell?, g2, Nat.zero_add]
    simpa [AV.den] using this
  · exact frozen_of hc _ (by omega)
end Go.Eng
