/- Strs: what the functions lean on. -/
import Derived.Test.YtgafgejkijbmpaaTab
import Derived.Test.YtgafgejkijbmpaaEngN
import Derived.Test.YtgafgejkijbmpaaEngT
import Derived.Test.YtgafgejkijbmpaaShelf
import Derived.IntWalk
namespace Go.Eng

/-- The cell of a package's variable that a contract of the library asks for. -/
def gB (m : Int) : Blk := ⟨0, .view 0 1 [.ints .i64 fun _ => m], false⟩

/-- A function that reads that cell alone. -/
def glH (F : List AV → Option (Prop × AV)) : Handler := fun _ args H K =>
  match nth H 0 with
  | some ⟨n, .view o k [.ints .i64 _], _⟩ => ck (Nat.beq n 0 && Nat.beq o 0 && Nat.beq k 1) (match F args with | some (c, v) => c ∧ K (.ret v) H | none => False)
  | _ => False

theorem gB_cell {m : Int} {w : World} (h : HoldsH [gB m] w) : w.cell? ⟨0, 0, none⟩ = some (.int .i64 m) := by
  obtain ⟨c, ty, fz, hc, hx⟩ := h.all 0 _ rfl
  have := hx 0 (by omega) 0 (.v (.int .i64 m)) rfl
  have hc : w.heap[0]? = some (.cells c.toArray ty fz) := hc
  simpa [World.cell?, hc, AV.den] using this

theorem cell_gB {m : Int} {w : World} (h : w.cell? ⟨0, 0, none⟩ = some (.int .i64 m)) : HoldsH [gB m] w := by
  refine ⟨fun i b hi => ?_, fun i j b c hi hj hij => ?_⟩
  · cases i with
    | zero =>
      simp at hi; subst hi
      simp only [World.cell?] at h
      split at h
      · rename_i c ty fz hc
        refine ⟨c.toList, ty, fz, by simpa [gB] using hc, fun i hi j x hx => ?_⟩
        obtain rfl : i = 0 := by omega
        cases j with
        | zero => simp [rowOf, Col.at] at hx; subst hx; simpa [AV.den] using h
        | succ j => simp [rowOf] at hx
      · cases h
    | succ i => simp at hi
  · cases i with
    | zero => (cases j with
      | zero => exact absurd rfl hij
      | succ j => simp at hj)
    | succ i => simp at hi

theorem glH_ok {P : Program} {f : FuncId} {F : List AV → Option (Prop × AV)} (he : Enters P f) (h : ∀ args p m, F args = some p → p.1 → LC P f args [gB m] (fun r _ => r = p.2)) : HOk P f (glH F) := by
  refine ⟨he, fun rs _ args H K w hH hk => ?_⟩
  unfold glH at hk
  split at hk
  · rename_i n o k g own hb
    have g_ := ck_spec hk
    clear hk
    obtain ⟨hck, hk⟩ := g_
    simp only [Bool.and_eq_true] at hck
    obtain ⟨⟨e1, e2⟩, e3⟩ := hck
    obtain rfl := Nat.eq_of_beq_eq_true e1
    obtain rfl := Nat.eq_of_beq_eq_true e2
    obtain rfl := Nat.eq_of_beq_eq_true e3
    split at hk
    · rename_i c v hv
      rw [nth_eq] at hb
      have h0 := hH.all 0 _ hb
      have hc : HoldsH [gB (g 0)] w := by
        obtain ⟨c, ty, fz, hc, hx⟩ := h0
        have := hx 0 (by omega) 0 _ rfl
        exact cell_gB (by simpa [World.cell?, hc, AV.den, Col.at] using this)
      refine ((h args (c, v) (g 0) hv hk.1).calls w hc).mono fun e w' hq => ?_
      obtain ⟨r, H', rfl, rfl, hx⟩ := hq
      have fr : Frm [] w w' := by
        have := hx.fr
        simpa [ownNums, gB] using this
      exact ⟨_, H, rfl, hk.2, fr.toExt hH⟩
    · exact hk.elim
  · exact hk.elim

theorem frm_of_below {w w' : World} (h : RowKit.Below w.heap.size w w') : Frm [] w w' := ⟨h.os, h.tape, h.output, h.size, fun k hk _ => h.block k hk⟩

/-- Where a part stands in a text; -1: nowhere. -/
def idxF : List AV → Option (Prop × AV)
  | [.v (.string s), .v (.string t)] => some (s.size < 4294967281, .v (.int .i64 (Lib.index s.data.toList t.data.toList)))
  | _ => none
end Go.Eng
namespace Go.Proofs.Ytgafgejkijbmpaa
open Go Go.Eng
set_option linter.unusedVariables false
set_option linter.unusedSimpArgs false

theorem mixed : Try.prog.follows .mixedOrders = true := by kernel_rfl

theorem w64 {x : Int} (h : -9223372036854775808 ≤ x ∧ x ≤ 9223372036854775807) : IntKind.i64.wrap x = x := IntWalk.i64_in _ h

theorem idx_ok : HOk Try.prog 44 (glH idxF) := glH_ok (enters_of (c := body Try.f44) Try.func44 rfl (by kernel_rfl)) fun args p m h hp => by
  unfold idxF at h
  split at h
  · rename_i s t
    cases h
    refine ⟨enters_of (c := body Try.f44) Try.func44 rfl (by kernel_rfl), fun w hw => (Go.Proofs.Try.strings_Index s t m w hp (gB_cell hw)).mono fun e w' hq => ?_⟩
    obtain ⟨rfl, rfl⟩ := hq
    exact ⟨_, [gB m], rfl, rfl, (HeapOk.enter hw).toExt⟩
  · cases h

def tx : Tbl := (4294967295, .ext mergeFlag) :: (93, .ext idH) :: (100, .ext (makeH 5)) :: (44, .gen (glH idxF)) :: []


theorem tx_ok : TblOk Try.prog tx := ⟨flag_ok, idH_ok Try.func93 (by kernel_rfl) (by kernel_rfl) (by kernel_rfl) (by kernel_rfl), makeH_ok (ps := #[3]) Try.underlying65 Try.func100 (by kernel_rfl) (by kernel_rfl) (by kernel_rfl) (by kernel_rfl), idx_ok, trivial⟩


def mustI : Handler := inlH tab [] noinv 2 Try.f43 1

set_option maxRecDepth 100000 in
theorem must_ok : HOk Try.prog 43 mustI :=
  inl_ok (tbl := []) tab_ok trivial mixed noinv 2 _ 1 Try.func43 rfl Try.ntmps43 (by decide) (by kernel_rfl) (Nat.le_of_ble_eq_true rfl)


def t1 : Tbl := (43, .gen mustI) :: tx

theorem t1_ok : TblOk Try.prog t1 := ⟨must_ok, tx_ok⟩


def shortI : Handler := inlH tab t1 (fun _ _ _ => .unroll 4) 2 Try.f42 1

set_option maxRecDepth 100000 in
theorem short_ok : HOk Try.prog 42 shortI :=
  inl_ok (tbl := t1) tab_ok t1_ok mixed (fun _ _ _ => .unroll 4) 2 _ 1 Try.func42 rfl Try.ntmps42 (by decide) (by kernel_rfl) (Nat.le_of_ble_eq_true rfl)



def betweenI : Handler := inlH tab t1 noinv 2 Try.f52 3

set_option maxRecDepth 100000 in
theorem between_ok : HOk Try.prog 52 betweenI :=
  inl_ok (tbl := t1) tab_ok t1_ok mixed noinv 2 _ 3 Try.func52 rfl Try.ntmps52 (by decide) (by kernel_rfl) (Nat.le_of_ble_eq_true rfl)



def turnedI : Handler := inlH tab [] noinv 2 Try.f71 1

set_option maxRecDepth 100000 in
theorem turned_ok : HOk Try.prog 71 turnedI :=
  inl_ok (tbl := []) tab_ok trivial mixed noinv 2 _ 1 Try.func71 rfl Try.ntmps71 (by decide) (by kernel_rfl) (Nat.le_of_ble_eq_true rfl)


def t2 : Tbl := (42, .gen shortI) :: (52, .gen betweenI) :: (71, .gen turnedI) :: t1

theorem t2_ok : TblOk Try.prog t2 := ⟨short_ok, between_ok, turned_ok, t1_ok⟩


def leftCI : Handler := inlH tab t2 noinv 2 Try.f59 2

set_option maxRecDepth 100000 in
theorem leftC_ok : HOk Try.prog 59 leftCI :=
  inl_ok (tbl := t2) tab_ok t2_ok mixed noinv 2 _ 2 Try.func59 rfl Try.ntmps59 (by decide) (by kernel_rfl) (Nat.le_of_ble_eq_true rfl)



def rightCI : Handler := inlH tab t2 noinv 2 Try.f60 2

set_option maxRecDepth 100000 in
theorem rightC_ok : HOk Try.prog 60 rightCI :=
  inl_ok (tbl := t2) tab_ok t2_ok mixed noinv 2 _ 2 Try.func60 rfl Try.ntmps60 (by decide) (by kernel_rfl) (Nat.le_of_ble_eq_true rfl)



def midCI : Handler := inlH tab t2 noinv 2 Try.f58 3

set_option maxRecDepth 100000 in
theorem midC_ok : HOk Try.prog 58 midCI :=
  inl_ok (tbl := t2) tab_ok t2_ok mixed noinv 2 _ 3 Try.func58 rfl Try.ntmps58 (by decide) (by kernel_rfl) (Nat.le_of_ble_eq_true rfl)



def findCI : Handler := inlH tab t2 noinv 2 Try.f41 3

set_option maxRecDepth 100000 in
theorem findC_ok : HOk Try.prog 41 findCI :=
  inl_ok (tbl := t2) tab_ok t2_ok mixed noinv 2 _ 3 Try.func41 rfl Try.ntmps41 (by decide) (by kernel_rfl) (Nat.le_of_ble_eq_true rfl)



def replCI : Handler := inlH tab t2 noinv 2 Try.f51 4

set_option maxRecDepth 100000 in
theorem replC_ok : HOk Try.prog 51 replCI :=
  inl_ok (tbl := t2) tab_ok t2_ok mixed noinv 2 _ 4 Try.func51 rfl Try.ntmps51 (by decide) (by kernel_rfl) (Nat.le_of_ble_eq_true rfl)


def t3 : Tbl := (59, .gen leftCI) :: (60, .gen rightCI) :: (58, .gen midCI) :: (41, .gen findCI) :: (51, .gen replCI) :: t2

theorem t3_ok : TblOk Try.prog t3 := ⟨leftC_ok, rightC_ok, midC_ok, findC_ok, replC_ok, t2_ok⟩

def textsH : Handler := guardH tab t3 noinv Try.f50 Try.f77 77

theorem texts_ok : HOk Try.prog 50 textsH := guard_ok tab_ok t3_ok mixed noinv Try.func50 rfl (by kernel_rfl) Try.func77 rfl (by kernel_rfl)

def numbersH : Handler := guardH tab t3 noinv Try.f40 Try.f70 70

theorem numbers_ok : HOk Try.prog 40 numbersH := guard_ok tab_ok t3_ok mixed noinv Try.func40 rfl (by kernel_rfl) Try.func70 rfl (by kernel_rfl)

def t4 : Tbl := (50, .gen textsH) :: (40, .gen numbersH) :: t3

theorem t4_ok : TblOk Try.prog t4 := ⟨texts_ok, numbers_ok, t3_ok⟩

end Go.Proofs.Ytgafgejkijbmpaa

