/- Undo: all marks, in order. -/
import Derived.Test.YtkjnkepdhbpnbaaAA
namespace Go.Eng
open Go.Sp

/-- All names of a map, in any order. -/
def collH : Handler := fun _ args H K =>
  match args with
  | [.fn (.func 43) [] [.ptr kx kn 0]] => ∃ (mx mn clock : Nat) (es : MK) (o1 o2 : Bool), nth H kx = some ⟨kn, .cells [.mp mx mn] 53, o1⟩ ∧ nth H mx = some ⟨mn, .mape (ByteArray × Int) kyM vlM mkM es clock, o2⟩ ∧ [kx, mx].Nodup ∧ keysOk es ∧ es.length ≤ 1048576 ∧
    ∀ (a : Option Addr) (n cap : Nat) (S : List Nat) (l : List ByteArray), l.Perm (es.map fun e => e.1.1) → emptyOk a n l.length cap → K (.ret (.os H.length a n 0 0 1 l.length cap)) (H ++ [⟨n, .lst 0 l.length [.strs (atS l)] S (some (cap, 9)), true⟩])
  | _ => False

/-- All marks, in order. -/
def HS.marksL (s : HS) : List ByteArray := sortNm s.es (s.es.map fun e => e.1.1)

def marksO : Handler := fun _ args H K =>
  match args with
  | [.ptr id n 0] => ∃ (s : HS) (S : List Nat), n = s.hn ∧ nth H id = some (hH s S) ∧ s.ok ∧ s.es.length ≤ 16 ∧ ∀ S' a n1 c1 S1, K (.ret (.os H.length a n1 0 0 1 s.marksL.length c1)) (H.set id (hH s S') ++ [lS n1 s.marksL S1 true])
  | _ => False

end Go.Eng
namespace Go.Proofs.Ytkjnkepdhbpnbaa
open Go Go.Eng Go.Sp
set_option linter.unusedVariables false
set_option linter.unusedSimpArgs false

theorem collH_ok : HOk Try.prog 41 collH := HOk.of_make (enters_of (c := body Try.f41) Try.func41 rfl (by kernel_rfl)) fun rs args H K hk => by
  unfold collH at hk
  split at hk
  · rename_i kx kn
    obtain ⟨mx, mn, clock, es, o1, o2, hb1, hb2, hnd, hkey, hl, hk⟩ := hk
    refine ⟨_, _, _, leAt (H := H) [kx, mx] hnd ?_, ?_, ?_, coll_lc kn mn es clock hkey.born hl, fun z H' hz => ?_⟩
    · simp only [pickH, hb1, hb2]
      exact ⟨LeB.cells rfl (fun h => (by cases h)), ⟨fun k hk => hk, fun h => (by cases h), fun w hw => hw⟩, trivial⟩
    · intro b hb
      simp at hb
      rcases hb with rfl | rfl <;> rfl
    · rfl
    · obtain ⟨r, a, n, cap, S, e1, e2, e3, e4⟩ := hz
      refine ⟨.os H.length a n 0 0 1 (namesR es r).length cap, [⟨n, .lst 0 (namesR es r).length [.strs (atS (namesR es r))] S (some (cap, 9)), true⟩], ?_, ?_, ?_, hk a n cap S (namesR es r) e3 ?_⟩
      · rw [e1]; simp [AV.den]
      · rw [namesR_len]; exact e4
      · intro b hb; simp at hb; subst hb; rfl
      · rw [namesR_len]; exact e2
  · cases hk


def keysOfI : Handler := inlH tab [] noinv 2 Try.f34 1

set_option maxRecDepth 100000 in
theorem keysOf_ok : HOk Try.prog 34 keysOfI :=
  inl_ok (tbl := []) tab_ok trivial mixed noinv 2 _ 1 Try.func34 rfl Try.ntmps34 (by decide) (by kernel_rfl) (Nat.le_of_ble_eq_true rfl)


def tbS : Tbl := (41, .gen collH) :: (42, .gen sortH) :: []

theorem tbS_ok : TblOk Try.prog tbS := ⟨collH_ok, sortH_ok, trivial⟩


def sortedI : Handler := inlH tab tbS noinv 2 Try.f33 2

set_option maxRecDepth 100000 in
theorem sorted_ok : HOk Try.prog 33 sortedI :=
  inl_ok (tbl := tbS) tab_ok tbS_ok mixed noinv 2 _ 2 Try.func33 rfl Try.ntmps33 (by decide) (by kernel_rfl) (Nat.le_of_ble_eq_true rfl)


def tbMk : Tbl := (25, .gen madeI) :: (34, .gen keysOfI) :: (33, .gen sortedI) :: []

theorem tbMk_ok : TblOk Try.prog tbMk := ⟨made_ok, keysOf_ok, sorted_ok, trivial⟩


set_option maxRecDepth 100000 in
theorem mks0_vc (hn mn : Nat) (m : Int) (es : MK) (clock : Nat) {R : AV → HH → Prop} (h : (∀ (n1 : Nat), n1 = n1 ∧ hn = hn ∧ n1 = n1 ∧ hn = hn ∧ ∀ (n2 : Nat), ∃ (mx : Nat), ∃ (mn_1 : Nat), ∃ (clock_1 : Nat), ∃ (es_1 : MK), ∃ (o1 : Bool), ∃ (o2 : Bool), some (Blk.mk n2 (Cont.cells [AV.mp (1 : Nat) mn] (53 : Nat)) true) = some (Blk.mk n2 (Cont.cells [AV.mp mx mn_1] (53 : Nat)) o1) ∧ nth [Blk.mk hn (Cont.cells [AV.v (Value.int IntKind.i64 m), AV.v (Value.int IntKind.i64 (0 : Int)), AV.v (Value.slice none (0 : Nat) (0 : Nat)), AV.mp (1 : Nat) mn] (55 : Nat)) true, Blk.mk mn (Cont.mape (ByteArray × Int) kyM vlM mkM es clock) true, Blk.mk n1 (Cont.cells [AV.ptr (0 : Nat) hn (0 : Nat)] (23 : Nat)) true, Blk.mk n2 (Cont.cells [AV.mp (1 : Nat) mn] (53 : Nat)) true] mx = some (Blk.mk mn_1 (Cont.mape (ByteArray × Int) kyM vlM mkM es_1 clock_1) o2) ∧ List.Pairwise (fun (x1 x2 : Nat) => x1 ≠ x2) [(3 : Nat), mx] ∧ keysOk es_1 ∧ List.length es_1 ≤ (1048576 : Nat) ∧ ∀ (a : Option Addr) (n10 n11 : Nat) (S : List Nat) (l : List ByteArray), l.Perm (List.map (fun (e : (ByteArray × Int) × Nat) => e.fst.fst) es_1) → emptyOk a n10 l.length n11 → ∃ (hx : Nat), ∃ (hn_1 : Nat), ∃ (mx : Nat), ∃ (mn_2 : Nat), ∃ (clock_2 : Nat), ∃ (m_1 : Int), ∃ (at_ : Int), ∃ (sl : AV), ∃ (es_2 : MK), ∃ (o1 : Bool), ∃ (o2 : Bool), ∃ (o3 : Bool), ∃ (S_1 : List Nat), ∃ (l_1 : List ByteArray), some (Blk.mk n1 (Cont.cells [AV.ptr (0 : Nat) hn (0 : Nat)] (23 : Nat)) true) = some (Blk.mk n1 (Cont.cells [AV.ptr hx hn_1 (0 : Nat)] (23 : Nat)) o1) ∧ nth [Blk.mk hn (Cont.cells [AV.v (Value.int IntKind.i64 m), AV.v (Value.int IntKind.i64 (0 : Int)), AV.v (Value.slice none (0 : Nat) (0 : Nat)), AV.mp (1 : Nat) mn] (55 : Nat)) true, Blk.mk mn (Cont.mape (ByteArray × Int) kyM vlM mkM es clock) true, Blk.mk n1 (Cont.cells [AV.ptr (0 : Nat) hn (0 : Nat)] (23 : Nat)) true, Blk.mk n2 (Cont.cells [AV.mp (1 : Nat) mn] (53 : Nat)) true, Blk.mk n10 (Cont.lst (0 : Nat) l.length [Col.strs (atS l)] S (some (n11, (9 : TypeId)))) true] hx = some (Blk.mk hn_1 (Cont.cells [AV.v (Value.int IntKind.i64 m_1), AV.v (Value.int IntKind.i64 at_), sl, AV.mp mx mn_2] (55 : Nat)) o2) ∧ nth [Blk.mk hn (Cont.cells [AV.v (Value.int IntKind.i64 m), AV.v (Value.int IntKind.i64 (0 : Int)), AV.v (Value.slice none (0 : Nat) (0 : Nat)), AV.mp (1 : Nat) mn] (55 : Nat)) true, Blk.mk mn (Cont.mape (ByteArray × Int) kyM vlM mkM es clock) true, Blk.mk n1 (Cont.cells [AV.ptr (0 : Nat) hn (0 : Nat)] (23 : Nat)) true, Blk.mk n2 (Cont.cells [AV.mp (1 : Nat) mn] (53 : Nat)) true, Blk.mk n10 (Cont.lst (0 : Nat) l.length [Col.strs (atS l)] S (some (n11, (9 : TypeId)))) true] mx = some (Blk.mk mn_2 (Cont.mape (ByteArray × Int) kyM vlM mkM es_2 clock_2) o3) ∧ some (Blk.mk n10 (Cont.lst (0 : Nat) l.length [Col.strs (atS l)] S (some (n11, (9 : TypeId)))) true) = some (Blk.mk n10 (Cont.lst (0 : Nat) l.length [Col.strs (atS l_1)] S_1 (some (n11, (9 : TypeId)))) true) ∧ l.length = l_1.length ∧ List.Pairwise (fun (x1 x2 : Nat) => x1 ≠ x2) [[Blk.mk hn (Cont.cells [AV.v (Value.int IntKind.i64 m), AV.v (Value.int IntKind.i64 (0 : Int)), AV.v (Value.slice none (0 : Nat) (0 : Nat)), AV.mp (1 : Nat) mn] (55 : Nat)) true, Blk.mk mn (Cont.mape (ByteArray × Int) kyM vlM mkM es clock) true, Blk.mk n1 (Cont.cells [AV.ptr (0 : Nat) hn (0 : Nat)] (23 : Nat)) true, Blk.mk n2 (Cont.cells [AV.mp (1 : Nat) mn] (53 : Nat)) true].length, (2 : Nat), hx, mx] ∧ keysOk es_2 ∧ l_1.length ≤ (1048576 : Nat) ∧ R (AV.os [Blk.mk hn (Cont.cells [AV.v (Value.int IntKind.i64 m), AV.v (Value.int IntKind.i64 (0 : Int)), AV.v (Value.slice none (0 : Nat) (0 : Nat)), AV.mp (1 : Nat) mn] (55 : Nat)) true, Blk.mk mn (Cont.mape (ByteArray × Int) kyM vlM mkM es clock) true, Blk.mk n1 (Cont.cells [AV.ptr (0 : Nat) hn (0 : Nat)] (23 : Nat)) true, Blk.mk n2 (Cont.cells [AV.mp (1 : Nat) mn] (53 : Nat)) true].length a n10 (0 : Nat) (0 : Nat) (1 : Nat) l.length n11) [Blk.mk hn (Cont.cells [AV.v (Value.int IntKind.i64 m), AV.v (Value.int IntKind.i64 (0 : Int)), AV.v (Value.slice none (0 : Nat) (0 : Nat)), AV.mp (1 : Nat) mn] (55 : Nat)) true, Blk.mk mn (Cont.mape (ByteArray × Int) kyM vlM mkM es clock) true, Blk.mk n1 (Cont.cells [AV.ptr (0 : Nat) hn (0 : Nat)] (23 : Nat)) true, Blk.mk n2 (Cont.cells [AV.mp (1 : Nat) mn] (53 : Nat)) true, Blk.mk n10 (Cont.lst (0 : Nat) l.length [Col.strs (atS (sortNm es_2 l_1))] S_1 (some (n11, (9 : TypeId)))) true])) : LC Try.prog 21 [.ptr 0 hn 0] [⟨hn, .cells [.v (.int .i64 m), .v (.int .i64 0), .v (.slice none 0 0), .mp 1 mn] 55, true⟩, ⟨mn, .mape (ByteArray × Int) kyM vlM mkM es clock, true⟩] R :=
  lc_of_exec (tbl := tbMk) tab_ok tbMk_ok mixed noinv 2 _ Try.func21 rfl Try.ntmps21 (by decide) (by kernel_rfl) (Nat.le_of_ble_eq_true rfl) (@Eq.mpr (execN tab tbMk noinv 2 Try.f21.ntmps [] none 0 (body Try.f21) (argsT [.ptr 0 hn 0] 0) [⟨hn, .cells [.v (.int .i64 m), .v (.int .i64 0), .v (.slice none 0 0), .mp 1 mn] 55, true⟩, ⟨mn, .mape (ByteArray × Int) kyM vlM mkM es clock, true⟩] (post Try.f21 tab (retK R))) _ (by kernel_rfl) h)



set_option maxRecDepth 100000 in
theorem mks1_vc (hn mn an : Nat) (m : Int) (at_ : Nat) (es : MK) (clock : Nat) (r len cap N : Nat) (g : Nat → Int) {R : AV → HH → Prop} (h : (∀ (n1 : Nat), n1 = n1 ∧ hn = hn ∧ n1 = n1 ∧ hn = hn ∧ ∀ (n2 : Nat), ∃ (mx : Nat), ∃ (mn_1 : Nat), ∃ (clock_1 : Nat), ∃ (es_1 : MK), ∃ (o1 : Bool), ∃ (o2 : Bool), some (Blk.mk n2 (Cont.cells [AV.mp (1 : Nat) mn] (53 : Nat)) true) = some (Blk.mk n2 (Cont.cells [AV.mp mx mn_1] (53 : Nat)) o1) ∧ nth [Blk.mk hn (Cont.cells [AV.v (Value.int IntKind.i64 m), AV.v (Value.int IntKind.i64 (↑at_ : Int)), AV.sl (2 : Nat) an r (1 : Nat) len cap, AV.mp (1 : Nat) mn] (55 : Nat)) true, Blk.mk mn (Cont.mape (ByteArray × Int) kyM vlM mkM es clock) true, Blk.mk an (Cont.rows N [Col.ints IntKind.i64 g] (3 : TypeId)) true, Blk.mk n1 (Cont.cells [AV.ptr (0 : Nat) hn (0 : Nat)] (23 : Nat)) true, Blk.mk n2 (Cont.cells [AV.mp (1 : Nat) mn] (53 : Nat)) true] mx = some (Blk.mk mn_1 (Cont.mape (ByteArray × Int) kyM vlM mkM es_1 clock_1) o2) ∧ List.Pairwise (fun (x1 x2 : Nat) => x1 ≠ x2) [(4 : Nat), mx] ∧ keysOk es_1 ∧ List.length es_1 ≤ (1048576 : Nat) ∧ ∀ (a : Option Addr) (n10 n11 : Nat) (S : List Nat) (l : List ByteArray), l.Perm (List.map (fun (e : (ByteArray × Int) × Nat) => e.fst.fst) es_1) → emptyOk a n10 l.length n11 → ∃ (hx : Nat), ∃ (hn_1 : Nat), ∃ (mx : Nat), ∃ (mn_2 : Nat), ∃ (clock_2 : Nat), ∃ (m_1 : Int), ∃ (at__1 : Int), ∃ (sl : AV), ∃ (es_2 : MK), ∃ (o1 : Bool), ∃ (o2 : Bool), ∃ (o3 : Bool), ∃ (S_1 : List Nat), ∃ (l_1 : List ByteArray), some (Blk.mk n1 (Cont.cells [AV.ptr (0 : Nat) hn (0 : Nat)] (23 : Nat)) true) = some (Blk.mk n1 (Cont.cells [AV.ptr hx hn_1 (0 : Nat)] (23 : Nat)) o1) ∧ nth [Blk.mk hn (Cont.cells [AV.v (Value.int IntKind.i64 m), AV.v (Value.int IntKind.i64 (↑at_ : Int)), AV.sl (2 : Nat) an r (1 : Nat) len cap, AV.mp (1 : Nat) mn] (55 : Nat)) true, Blk.mk mn (Cont.mape (ByteArray × Int) kyM vlM mkM es clock) true, Blk.mk an (Cont.rows N [Col.ints IntKind.i64 g] (3 : TypeId)) true, Blk.mk n1 (Cont.cells [AV.ptr (0 : Nat) hn (0 : Nat)] (23 : Nat)) true, Blk.mk n2 (Cont.cells [AV.mp (1 : Nat) mn] (53 : Nat)) true, Blk.mk n10 (Cont.lst (0 : Nat) l.length [Col.strs (atS l)] S (some (n11, (9 : TypeId)))) true] hx = some (Blk.mk hn_1 (Cont.cells [AV.v (Value.int IntKind.i64 m_1), AV.v (Value.int IntKind.i64 at__1), sl, AV.mp mx mn_2] (55 : Nat)) o2) ∧ nth [Blk.mk hn (Cont.cells [AV.v (Value.int IntKind.i64 m), AV.v (Value.int IntKind.i64 (↑at_ : Int)), AV.sl (2 : Nat) an r (1 : Nat) len cap, AV.mp (1 : Nat) mn] (55 : Nat)) true, Blk.mk mn (Cont.mape (ByteArray × Int) kyM vlM mkM es clock) true, Blk.mk an (Cont.rows N [Col.ints IntKind.i64 g] (3 : TypeId)) true, Blk.mk n1 (Cont.cells [AV.ptr (0 : Nat) hn (0 : Nat)] (23 : Nat)) true, Blk.mk n2 (Cont.cells [AV.mp (1 : Nat) mn] (53 : Nat)) true, Blk.mk n10 (Cont.lst (0 : Nat) l.length [Col.strs (atS l)] S (some (n11, (9 : TypeId)))) true] mx = some (Blk.mk mn_2 (Cont.mape (ByteArray × Int) kyM vlM mkM es_2 clock_2) o3) ∧ some (Blk.mk n10 (Cont.lst (0 : Nat) l.length [Col.strs (atS l)] S (some (n11, (9 : TypeId)))) true) = some (Blk.mk n10 (Cont.lst (0 : Nat) l.length [Col.strs (atS l_1)] S_1 (some (n11, (9 : TypeId)))) true) ∧ l.length = l_1.length ∧ List.Pairwise (fun (x1 x2 : Nat) => x1 ≠ x2) [[Blk.mk hn (Cont.cells [AV.v (Value.int IntKind.i64 m), AV.v (Value.int IntKind.i64 (↑at_ : Int)), AV.sl (2 : Nat) an r (1 : Nat) len cap, AV.mp (1 : Nat) mn] (55 : Nat)) true, Blk.mk mn (Cont.mape (ByteArray × Int) kyM vlM mkM es clock) true, Blk.mk an (Cont.rows N [Col.ints IntKind.i64 g] (3 : TypeId)) true, Blk.mk n1 (Cont.cells [AV.ptr (0 : Nat) hn (0 : Nat)] (23 : Nat)) true, Blk.mk n2 (Cont.cells [AV.mp (1 : Nat) mn] (53 : Nat)) true].length, (3 : Nat), hx, mx] ∧ keysOk es_2 ∧ l_1.length ≤ (1048576 : Nat) ∧ R (AV.os [Blk.mk hn (Cont.cells [AV.v (Value.int IntKind.i64 m), AV.v (Value.int IntKind.i64 (↑at_ : Int)), AV.sl (2 : Nat) an r (1 : Nat) len cap, AV.mp (1 : Nat) mn] (55 : Nat)) true, Blk.mk mn (Cont.mape (ByteArray × Int) kyM vlM mkM es clock) true, Blk.mk an (Cont.rows N [Col.ints IntKind.i64 g] (3 : TypeId)) true, Blk.mk n1 (Cont.cells [AV.ptr (0 : Nat) hn (0 : Nat)] (23 : Nat)) true, Blk.mk n2 (Cont.cells [AV.mp (1 : Nat) mn] (53 : Nat)) true].length a n10 (0 : Nat) (0 : Nat) (1 : Nat) l.length n11) [Blk.mk hn (Cont.cells [AV.v (Value.int IntKind.i64 m), AV.v (Value.int IntKind.i64 (↑at_ : Int)), AV.sl (2 : Nat) an r (1 : Nat) len cap, AV.mp (1 : Nat) mn] (55 : Nat)) true, Blk.mk mn (Cont.mape (ByteArray × Int) kyM vlM mkM es clock) true, Blk.mk an (Cont.rows N [Col.ints IntKind.i64 g] (3 : TypeId)) true, Blk.mk n1 (Cont.cells [AV.ptr (0 : Nat) hn (0 : Nat)] (23 : Nat)) true, Blk.mk n2 (Cont.cells [AV.mp (1 : Nat) mn] (53 : Nat)) true, Blk.mk n10 (Cont.lst (0 : Nat) l.length [Col.strs (atS (sortNm es_2 l_1))] S_1 (some (n11, (9 : TypeId)))) true])) : LC Try.prog 21 [.ptr 0 hn 0] [⟨hn, .cells [.v (.int .i64 m), .v (.int .i64 (at_ : Int)), .sl 2 an r 1 len cap, .mp 1 mn] 55, true⟩, ⟨mn, .mape (ByteArray × Int) kyM vlM mkM es clock, true⟩, ⟨an, .rows N [.ints .i64 g] 3, true⟩] R :=
  lc_of_exec (tbl := tbMk) tab_ok tbMk_ok mixed noinv 2 _ Try.func21 rfl Try.ntmps21 (by decide) (by kernel_rfl) (Nat.le_of_ble_eq_true rfl) (@Eq.mpr (execN tab tbMk noinv 2 Try.f21.ntmps [] none 0 (body Try.f21) (argsT [.ptr 0 hn 0] 0) [⟨hn, .cells [.v (.int .i64 m), .v (.int .i64 (at_ : Int)), .sl 2 an r 1 len cap, .mp 1 mn] 55, true⟩, ⟨mn, .mape (ByteArray × Int) kyM vlM mkM es clock, true⟩, ⟨an, .rows N [.ints .i64 g] 3, true⟩] (post Try.f21 tab (retK R))) _ (by kernel_rfl) h)

end Go.Proofs.Ytkjnkepdhbpnbaa

