/- View: from a row's condition to the table's block and the list. -/
import Derived.Test.YthkegefjmcipmaaDoorVJ
import Derived.Test.YthkegefjmcipmaaDoorEngR
import Derived.Lib.LaidTab
import Derived.Stop.LaidErr
import Derived.MakeChecks
namespace Go.Proofs.YthkegefjmcipmaaDoor
open Go Go.Eng Go.Sp

theorem tab_of_laid {W : World} {rest : List (String × DataW Unit)} (h : laidMet Tryd.prog (("internal/strconv.uint64pow10", Lib.tabData .u64 Lib.pow10Tab) :: rest) W) : ∃ o, tabOk o ∧ HoldsH [tB GT o] W := by
  have ht := Lib.tabIs_of_head (n := 20) gt_ok (by kernel_rfl) Tryd.underlying114 Tryd.underlying101 (by kernel_rfl) (by kernel_rfl) h
  simp only [Lib.TabIs, World.var?, gt_ok, Option.bind_some] at ht
  split at ht
  · rename_i cs ty fz hc
    cases ht
    refine ⟨Obj.cells _ ty fz, ⟨ty, fz, rfl⟩, ⟨fun i b hi => ?_, fun i j b c hi hj hij => ?_⟩⟩
    · cases i with
      | zero => simp at hi; subst hi; exact hc
      | succ i => simp at hi
    · cases i with
      | zero => (cases j with
        | zero => exact absurd rfl hij
        | succ j => simp at hj)
      | succ i => simp at hi
  · cases ht

theorem str_small {v : Value} (h : Kd.str.ok v) : (strV v).size ≤ 9223372036854775807 := by
  obtain ⟨s, rfl, h⟩ := h
  exact h

/-- The table and a list of data: neither is in the other's place. -/
theorem os_tab {w : World} {o_ : Obj} (ho : tabOk o_) (hb : HoldsH [tB GT o_] w) {ks : List Kd} {al : Option Addr} {ll cl : Nat} (sz : Nat) (h0 : ks[0]? = some (.int .i64)) (h : (∃ a cap, Value.slice al ll cl = .slice a 0 cap) ∨ ∃ (n o len cap : Nat) (V : Nat → Nat → Value), 0 < len ∧ len ≤ cap ∧ cap ≤ maxLen ∧ Value.slice al ll cl = .slice (some ⟨n, o, none⟩) len cap ∧ (Cont.view o len (viewCols V ks 0)).holds w n ∧
      ∀ i, i < len → ∀ (j : Nat) (k : Kd), ks[j]? = some k → k.ok (V i j)) :
    ∃ (a : Option Addr) (n o : Nat) (V : Nat → Nat → Value) (S : List Nat), al = (if ll = 0 then a else some ⟨n, o + 0 * sz, none⟩) ∧ ll ≤ 9223372036854775807 ∧ HoldsH [tB GT o_, ⟨n, .lst o ll (viewCols V ks 0) S none, false⟩] w ∧ ∀ i, i < ll → ∀ (j : Nat) (k : Kd), ks[j]? = some k → k.ok (V i j) := by
  rcases h with ⟨a, cap, e⟩ | ⟨n, o, len, cap, V, hpos, hle, hcap, e, hv, hk⟩
  · simp only [Value.slice.injEq] at e
    obtain ⟨rfl, rfl, rfl⟩ := e
    refine ⟨al, 0, 0, fun _ _ => undef, [], rfl, by omega, ?_, fun i hi => absurd hi (Nat.not_lt_zero _)⟩
    refine HoldsH.join (H := [tB GT o_]) hb (holds_one ⟨fun k hk => (by cases hk), fun hn => absurd hn (Nat.lt_irrefl _), fun cap t e => by cases e⟩) fun k _ hk => ?_
    simp [numsAll, Blk.nums, Cont.nums] at hk
  · simp only [Value.slice.injEq] at e
    obtain ⟨rfl, rfl, rfl⟩ := e
    have h1 : maxLen = 9223372036854775807 := rfl
    obtain ⟨c, ty, fz, hc, hcc⟩ := hv
    refine ⟨none, n, o, V, [n], by rw [if_neg (by omega)]; simp, by omega, ?_, hk⟩
    refine HoldsH.join (H := [tB GT o_]) hb (holds_one ⟨fun k hk => ?_, fun _ => ⟨List.mem_singleton.2 rfl, c, ty, fz, hc, hcc⟩, fun cap t e => by cases e⟩) fun k hk hk2 => ?_
    · rw [List.mem_singleton] at hk
      subst hk
      exact lt_of_some hc
    · have e1 : k = GT := by simpa [numsAll, Blk.nums, Cont.nums, tB] using hk
      have e2 : k = n := by simpa [numsAll, Blk.nums, Cont.nums] using hk2
      have hg : w.heap[GT]? = some o_ := hb.all 0 _ rfl
      obtain ⟨ty', fz', rfl⟩ := ho.get
      rw [← e1, e2, hc] at hg
      simp only [Option.some.injEq, Obj.cells.injEq] at hg
      have hq := hg.1
      cases ks with
      | nil => simp at h0
      | cons k0 ks =>
        simp at h0
        subst h0
        have h2 := hcc 0 hpos 0 (.v (.int .i64 (intV (V 0 0)))) rfl
        have h3 : c = Lib.pow10Tab.map fun z => Value.int .u64 z := by simpa using congrArg Array.toList hq
        rw [h3, List.getElem?_map] at h2
        obtain ⟨z, _, hz⟩ := Option.map_eq_some_iff.1 h2
        have hz : Value.int .u64 z = Value.int .i64 (intV (V 0 0)) := hz
        cases hz

end Go.Proofs.YthkegefjmcipmaaDoor

