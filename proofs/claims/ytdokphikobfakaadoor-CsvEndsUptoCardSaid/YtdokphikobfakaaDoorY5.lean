/- Functions that read a package's variable alone, and what the library's contracts ask for. -/
import Derived.Test.YtdokphikobfakaaDoorEngN
import Derived.RowKit
namespace Go.Eng

/-- The cell of a package's variable that a contract of the library asks for. -/
def gB (m : Int) : Blk := ⟨0, .view 0 1 [.ints .i64 fun _ => m], false⟩

/-- A function that reads that cell alone. -/
def glH (F : List AV → Option (Prop × AV)) : Handler := fun _ args H K =>
  match nth H 0 with
  | some ⟨n, .view o k [.ints .i64 _], _⟩ => ck (Nat.beq n 0 && Nat.beq o 0 && Nat.beq k 1) (match F args with | some (c, v) => c ∧ K (.ret v) H | none => False)
  | _ => False

theorem gB_cell {m : Int} {w : World} (h : HoldsH [gB m] w) : w.cell? ⟨0, 0, none⟩ = some (.int .i64 m) := by
  obtain ⟨c, ty, fz, hc, hx⟩ := h.all 0 _ rfl
  have := hx 0 (by omega) 0 (.v (.int .i64 m)) rfl
  have hc : w.heap[0]? = some (.cells c.toArray ty fz) := hc
  simpa [World.cell?, hc, AV.den] using this

theorem cell_gB {m : Int} {w : World} (h : w.cell? ⟨0, 0, none⟩ = some (.int .i64 m)) : HoldsH [gB m] w := by
  refine ⟨fun i b hi => ?_, fun i j b c hi hj hij => ?_⟩
  · cases i with
    | zero =>
      simp at hi; subst hi
      simp only [World.cell?] at h
      split at h
      · rename_i c ty fz hc
        refine ⟨c.toList, ty, fz, by simpa [gB] using hc, fun i hi j x hx => ?_⟩
        obtain rfl : i = 0 := by omega
        cases j with
        | zero => simp [rowOf, Col.at] at hx; subst hx; simpa [AV.den] using h
        | succ j => simp [rowOf] at hx
      · cases h
    | succ i => simp at hi
  · cases i with
    | zero => (cases j with
      | zero => exact absurd rfl hij
      | succ j => simp at hj)
    | succ i => simp at hi

theorem glH_ok {P : Program} {f : FuncId} {F : List AV → Option (Prop × AV)} (he : Enters P f) (h : ∀ args p m, F args = some p → p.1 → LC P f args [gB m] (fun r _ => r = p.2)) : HOk P f (glH F) := by
  refine ⟨he, fun rs _ args H K w hH hk => ?_⟩
  unfold glH at hk
  split at hk
  · rename_i n o k g own hb
    have g_ := ck_spec hk
    clear hk
    obtain ⟨hck, hk⟩ := g_
    simp only [Bool.and_eq_true] at hck
    obtain ⟨⟨e1, e2⟩, e3⟩ := hck
    obtain rfl := Nat.eq_of_beq_eq_true e1
    obtain rfl := Nat.eq_of_beq_eq_true e2
    obtain rfl := Nat.eq_of_beq_eq_true e3
    split at hk
    · rename_i c v hv
      rw [nth_eq] at hb
      have h0 := hH.all 0 _ hb
      have hc : HoldsH [gB (g 0)] w := by
        obtain ⟨c, ty, fz, hc, hx⟩ := h0
        have := hx 0 (by omega) 0 _ rfl
        exact cell_gB (by simpa [World.cell?, hc, AV.den, Col.at] using this)
      refine ((h args (c, v) (g 0) hv hk.1).calls w hc).mono fun e w' hq => ?_
      obtain ⟨r, H', rfl, rfl, hx⟩ := hq
      have fr : Frm [] w w' := by
        have := hx.fr
        simpa [ownNums, gB] using this
      exact ⟨_, H, rfl, hk.2, fr.toExt hH⟩
    · exact hk.elim
  · exact hk.elim

theorem frm_of_below {w w' : World} (h : RowKit.Below w.heap.size w w') : Frm [] w w' := ⟨h.os, h.tape, h.output, h.size, fun k hk _ => h.block k hk, trivial⟩
end Go.Eng

