/- Undo: names sorted by the library. -/
import Derived.Test.YtkjnkepdhbpnbaaZ
import Derived.Test.YtkjnkepdhbpnbaaShelf
namespace Go.Eng
open Go.Sp

/-- A call of the sort, over names that were gathered. -/
def sortH : Handler := fun _ args H K =>
  match args with
  | [.os id _ n 0 0 1 len cap, .fn (.func 35) [] [.ptr bx bn 0]] => ∃ (hx hn mx mn clock : Nat) (m at_ : Int) (sl : AV) (es : MK) (o1 o2 o3 : Bool) (S : List Nat) (l : List ByteArray),
    nth H bx = some ⟨bn, .cells [.ptr hx hn 0] 23, o1⟩ ∧ nth H hx = some ⟨hn, .cells [.v (.int .i64 m), .v (.int .i64 at_), sl, .mp mx mn] 55, o2⟩ ∧ nth H mx = some ⟨mn, .mape (ByteArray × Int) kyM vlM mkM es clock, o3⟩ ∧
    nth H id = some ⟨n, .lst 0 len [.strs (atS l)] S (some (cap, 9)), true⟩ ∧ len = l.length ∧ [id, bx, hx, mx].Nodup ∧ keysOk es ∧ l.length ≤ 1048576 ∧
    K (.ret (.tup [])) (H.set id ⟨n, .lst 0 len [.strs (atS (sortNm es l))] S (some (cap, 9)), true⟩)
  | _ => False

end Go.Eng
namespace Go.Proofs.Ytkjnkepdhbpnbaa
open Go Go.Eng Go.Sp Go.Sort Go.Proofs
set_option linter.unusedVariables false
set_option linter.unusedSimpArgs false

theorem sort_calls (p : Option Addr) (w : World) (n cap bn : Nat) (es : MK) (d : Array ByteArray) (hd : 0 < d.size) (hsz : d.size ≤ 1048576) (hH : Holds Value.string w n 0 d) (hn : n < w.heap.size)
    (hcmp : CmpLays1 Try.prog 35 #[.pointer (some ⟨bn, 0, none⟩)] Value.string (cfM es) n 0 d.size w) :
    Calls Try.prog 42 #[.slice (some ⟨n, 0, none⟩) d.size cap, .func (.func 35) #[] #[.pointer (some ⟨bn, 0, none⟩)]] w fun e w' => e = .returned (.tuple #[]) ∧ ∃ q os, w' = sortWorld Value.string w n 0 q (sortNm es d.toList).toArray os := by
  have eg : ∀ args w, (callFunc 35 args).run Try.prog w = .ok (.enter 35 args) w := enters_of (c := body Try.f35) Try.func35 rfl (by kernel_rfl)
  exact Try.slices_SortFunc_total Value.string (fun _ => rfl) (cfM es) (swoM es) 35 #[.pointer (some ⟨bn, 0, none⟩)] n 0 cap d w eg hcmp hH hn (by omega) (fun x y h1 h2 => ahead_tri (ltOf_false.1 h1) (ltOf_false.1 h2))

theorem sort_none (p : Option Addr) (cap : Nat) (fv : Value) (w : World) : Calls Try.prog 42 #[.slice p 0 cap, fv] w fun e w' => e = .returned (.tuple #[]) ∧ w' = w :=
  Try.slices_SortFunc_none (α := ByteArray) p cap fv w

theorem sortH_ok : HOk Try.prog 42 sortH := by
  refine ⟨enters_of (c := body Try.f42) Try.func42 rfl (by kernel_rfl), fun rs _ args H K w hw hk => ?_⟩
  unfold sortH at hk
  split at hk
  · rename_i id a n len cap bx bn
    obtain ⟨hx, hn, mx, mn, clock, m, at_, sl, es, o1, o2, o3, S, l, hb1, hb2, hb3, hb, rfl, hnd, hkey, hl, hk⟩ := hk
    rw [nth_eq] at hb1 hb2 hb3 hb
    by_cases hl0 : l.length = 0
    · have hl1 : l = [] := List.eq_nil_of_length_eq_zero hl0
      subst hl1
      refine (sort_none (if ([] : List ByteArray).length = 0 then a else some ⟨n, 0 + 0 * 1, none⟩) cap _ w).mono fun e w' hq => ?_
      obtain ⟨rfl, rfl⟩ := hq
      refine ⟨_, _, rfl, hk, ?_⟩
      have e1 : H.set id ⟨n, .lst 0 ([] : List ByteArray).length [.strs (atS (sortNm es []))] S (some (cap, 9)), true⟩ = H := by
        apply List.ext_getElem?
        intro j
        rw [List.getElem?_set]
        split
        · rename_i ej; subst ej
          split
          · rw [hb]; simp [sortNm]
          · rename_i hl; rw [List.getElem?_eq_none (by omega)] at hb; cases hb
        · rfl
      rw [e1]
      exact (HeapOk.enter hw).toExt
    · have hpos : 0 < l.length := by omega
      have hbl := hw.all id _ hb
      obtain ⟨hH, hlt⟩ := lst_holds hbl (d := l.toArray) (by simp) hpos (fun i hi => by simp [atS_get hi, hi])
      have hnS : n ∈ S := ((hbl.2.1) hpos).1
      have hin : HoldsH [⟨bn, .cells [.ptr 1 hn 0] 23, false⟩, ⟨hn, .cells [.v (.int .i64 m), .v (.int .i64 at_), .v sl.den, .mp 2 mn] 55, false⟩, ⟨mn, .mape (ByteArray × Int) kyM vlM mkM es clock, false⟩] w := by
        refine (leAt (H := H) [bx, hx, mx] (List.nodup_cons.1 hnd).2 ?_).holds w hw
        simp only [pickH, nth_eq, hb1, hb2, hb3]
        exact ⟨LeB.cells rfl (fun h => (by cases h)), LeB.cells rfl (fun h => (by cases h)), ⟨fun k hk => hk, fun h => (by cases h), fun w hw => hw⟩, trivial⟩
      have hap : ∀ k ∈ ([bn, hn, mn] : List Nat), k ≠ n := by
        have hnd2 := (List.nodup_cons.1 hnd).1
        intro k hm e
        rw [e] at hm
        simp only [List.mem_cons, List.not_mem_nil, or_false] at hm hnd2
        rcases hm with h | h | h
        · exact hw.apart bx id _ _ hb1 hb (fun e => hnd2 (.inl e.symm)) n (by rw [h]; exact List.mem_singleton.2 rfl) hnS
        · exact hw.apart hx id _ _ hb2 hb (fun e => hnd2 (.inr (.inl e.symm))) n (by rw [h]; exact List.mem_singleton.2 rfl) hnS
        · exact hw.apart mx id _ _ hb3 hb (fun e => hnd2 (.inr (.inr e.symm))) n (by rw [h]; exact List.mem_singleton.2 rfl) hnS
      have hcmp : CmpLays1 Try.prog 35 #[.pointer (some ⟨bn, 0, none⟩)] Value.string (cfM es) n 0 l.toArray.size w := by
        intro m' os dk hs x y
        refine ((byn_lc bn hn mn m at_ sl.den es clock x y hkey).calls (sortWorld Value.string w n 0 m' dk os) (hin.same fun k hk => ?_)).mono fun e w' hq => ?_
        · have hk2 : k ∈ ([bn, hn, mn] : List Nat) := by simpa [numsAll, Blk.nums, Cont.nums] using hk
          exact sortWorld_old (hin.lt k hk) (hap k hk2)
        · obtain ⟨v, H', rfl, rfl, hx'⟩ := hq
          have fr : Frm [] (sortWorld Value.string w n 0 m' dk os) w' := by have := hx'.fr; simpa [ownNums] using this
          exact ⟨rfl, frm_grown fr fr.dr⟩
      have hden : (denL [AV.os id a n 0 0 1 l.length cap, .fn (.func 35) [] [.ptr bx bn 0]]).toArray = #[.slice (some ⟨n, 0, none⟩) l.toArray.size cap, .func (.func 35) #[] #[.pointer (some ⟨bn, 0, none⟩)]] := by
        simp [denL, AV.den, hl0]
      rw [hden]
      refine (sort_calls none w n cap bn es l.toArray (by simpa using hpos) (by simpa using hl) hH hlt hcmp).mono fun e w' hq => ?_
      obtain ⟨rfl, q, os, rfl⟩ := hq
      refine ⟨_, _, rfl, hk, ?_⟩
      exact sort_ext hw hb hpos (by simp) (fun i hi => by
        have hi2 : i < (sortNm es l).length := by simpa using hi
        rw [atS_get hi2]
        simp [hi])
  · exact hk.elim

end Go.Proofs.Ytkjnkepdhbpnbaa

namespace Go.Eng
open Go.Sp

/-- All names of a map, in any order. -/
def collH : Handler := fun _ args H K =>
  match args with
  | [.fn (.func 43) [] [.ptr kx kn 0]] => ∃ (mx mn clock : Nat) (es : MK) (o1 o2 : Bool), nth H kx = some ⟨kn, .cells [.mp mx mn] 53, o1⟩ ∧ nth H mx = some ⟨mn, .mape (ByteArray × Int) kyM vlM mkM es clock, o2⟩ ∧ [kx, mx].Nodup ∧ keysOk es ∧ es.length ≤ 1048576 ∧
    ∀ (a : Option Addr) (n cap : Nat) (S : List Nat) (l : List ByteArray), l.Perm (es.map fun e => e.1.1) → emptyOk a n l.length cap → K (.ret (.os H.length a n 0 0 1 l.length cap)) (H ++ [⟨n, .lst 0 l.length [.strs (atS l)] S (some (cap, 9)), true⟩])
  | _ => False

/-- All marks, in order. -/
def HS.marksL (s : HS) : List ByteArray := sortNm s.es (s.es.map fun e => e.1.1)

def marksO : Handler := fun _ args H K =>
  match args with
  | [.ptr id n 0] => ∃ (s : HS) (S : List Nat), n = s.hn ∧ nth H id = some (hH s S) ∧ s.ok ∧ s.es.length ≤ 16 ∧ ∀ S' a n1 c1 S1, K (.ret (.os H.length a n1 0 0 1 s.marksL.length c1)) (H.set id (hH s S') ++ [lS n1 s.marksL S1 true])
  | _ => False

end Go.Eng
namespace Go.Proofs.Ytkjnkepdhbpnbaa
open Go Go.Eng Go.Sp
set_option linter.unusedVariables false
set_option linter.unusedSimpArgs false

theorem collH_ok : HOk Try.prog 41 collH := HOk.of_make (enters_of (c := body Try.f41) Try.func41 rfl (by kernel_rfl)) fun rs args H K hk => by
  unfold collH at hk
  split at hk
  · rename_i kx kn
    obtain ⟨mx, mn, clock, es, o1, o2, hb1, hb2, hnd, hkey, hl, hk⟩ := hk
    refine ⟨_, _, _, leAt (H := H) [kx, mx] hnd ?_, ?_, ?_, coll_lc kn mn es clock hkey.born hl, fun z H' hz => ?_⟩
    · simp only [pickH, hb1, hb2]
      exact ⟨LeB.cells rfl (fun h => (by cases h)), ⟨fun k hk => hk, fun h => (by cases h), fun w hw => hw⟩, trivial⟩
    · intro b hb
      simp at hb
      rcases hb with rfl | rfl <;> rfl
    · rfl
    · obtain ⟨r, a, n, cap, S, e1, e2, e3, e4⟩ := hz
      refine ⟨.os H.length a n 0 0 1 (namesR es r).length cap, [⟨n, .lst 0 (namesR es r).length [.strs (atS (namesR es r))] S (some (cap, 9)), true⟩], ?_, ?_, ?_, hk a n cap S (namesR es r) e3 ?_⟩
      · rw [e1]; simp [AV.den]
      · rw [namesR_len]; exact e4
      · intro b hb; simp at hb; subst hb; rfl
      · rw [namesR_len]; exact e2
  · cases hk


def keysOfI : Handler := inlH tab [] noinv 2 Try.f34 1

set_option maxRecDepth 100000 in
theorem keysOf_ok : HOk Try.prog 34 keysOfI :=
  inl_ok (tbl := []) tab_ok trivial mixed noinv 2 _ 1 Try.func34 rfl Try.ntmps34 (by decide) (by kernel_rfl) (Nat.le_of_ble_eq_true rfl)


def tbS : Tbl := (41, .gen collH) :: (42, .gen sortH) :: []

theorem tbS_ok : TblOk Try.prog tbS := ⟨collH_ok, sortH_ok, trivial⟩


def sortedI : Handler := inlH tab tbS noinv 2 Try.f33 2

set_option maxRecDepth 100000 in
theorem sorted_ok : HOk Try.prog 33 sortedI :=
  inl_ok (tbl := tbS) tab_ok tbS_ok mixed noinv 2 _ 2 Try.func33 rfl Try.ntmps33 (by decide) (by kernel_rfl) (Nat.le_of_ble_eq_true rfl)


def tbMk : Tbl := (25, .gen madeI) :: (34, .gen keysOfI) :: (33, .gen sortedI) :: []

theorem tbMk_ok : TblOk Try.prog tbMk := ⟨made_ok, keysOf_ok, sorted_ok, trivial⟩


set_option maxRecDepth 100000 in
theorem mks0_vc (hn mn : Nat) (m : Int) (es : MK) (clock : Nat) {R : AV → HH → Prop} (h : (∀ (n1 : Nat), n1 = n1 ∧ hn = hn ∧ n1 = n1 ∧ hn = hn ∧ ∀ (n2 : Nat), ∃ (mx : Nat), ∃ (mn_1 : Nat), ∃ (clock_1 : Nat), ∃ (es_1 : MK), ∃ (o1 : Bool), ∃ (o2 : Bool), some (Blk.mk n2 (Cont.cells [AV.mp (1 : Nat) mn] (53 : Nat)) true) = some (Blk.mk n2 (Cont.cells [AV.mp mx mn_1] (53 : Nat)) o1) ∧ nth [Blk.mk hn (Cont.cells [AV.v (Value.int IntKind.i64 m), AV.v (Value.int IntKind.i64 (0 : Int)), AV.v (Value.slice none (0 : Nat) (0 : Nat)), AV.mp (1 : Nat) mn] (55 : Nat)) true, Blk.mk mn (Cont.mape (ByteArray × Int) kyM vlM mkM es clock) true, Blk.mk n1 (Cont.cells [AV.ptr (0 : Nat) hn (0 : Nat)] (23 : Nat)) true, Blk.mk n2 (Cont.cells [AV.mp (1 : Nat) mn] (53 : Nat)) true] mx = some (Blk.mk mn_1 (Cont.mape (ByteArray × Int) kyM vlM mkM es_1 clock_1) o2) ∧ List.Pairwise (fun (x1 x2 : Nat) => x1 ≠ x2) [(3 : Nat), mx] ∧ keysOk es_1 ∧ List.length es_1 ≤ (1048576 : Nat) ∧ ∀ (a : Option Addr) (n10 n11 : Nat) (S : List Nat) (l : List ByteArray), l.Perm (List.map (fun (e : (ByteArray × Int) × Nat) => e.fst.fst) es_1) → emptyOk a n10 l.length n11 → ∃ (hx : Nat), ∃ (hn_1 : Nat), ∃ (mx : Nat), ∃ (mn_2 : Nat), ∃ (clock_2 : Nat), ∃ (m_1 : Int), ∃ (at_ : Int), ∃ (sl : AV), ∃ (es_2 : MK), ∃ (o1 : Bool), ∃ (o2 : Bool), ∃ (o3 : Bool), ∃ (S_1 : List Nat), ∃ (l_1 : List ByteArray), some (Blk.mk n1 (Cont.cells [AV.ptr (0 : Nat) hn (0 : Nat)] (23 : Nat)) true) = some (Blk.mk n1 (Cont.cells [AV.ptr hx hn_1 (0 : Nat)] (23 : Nat)) o1) ∧ nth [Blk.mk hn (Cont.cells [AV.v (Value.int IntKind.i64 m), AV.v (Value.int IntKind.i64 (0 : Int)), AV.v (Value.slice none (0 : Nat) (0 : Nat)), AV.mp (1 : Nat) mn] (55 : Nat)) true, Blk.mk mn (Cont.mape (ByteArray × Int) kyM vlM mkM es clock) true, Blk.mk n1 (Cont.cells [AV.ptr (0 : Nat) hn (0 : Nat)] (23 : Nat)) true, Blk.mk n2 (Cont.cells [AV.mp (1 : Nat) mn] (53 : Nat)) true, Blk.mk n10 (Cont.lst (0 : Nat) l.length [Col.strs (atS l)] S (some (n11, (9 : TypeId)))) true] hx = some (Blk.mk hn_1 (Cont.cells [AV.v (Value.int IntKind.i64 m_1), AV.v (Value.int IntKind.i64 at_), sl, AV.mp mx mn_2] (55 : Nat)) o2) ∧ nth [Blk.mk hn (Cont.cells [AV.v (Value.int IntKind.i64 m), AV.v (Value.int IntKind.i64 (0 : Int)), AV.v (Value.slice none (0 : Nat) (0 : Nat)), AV.mp (1 : Nat) mn] (55 : Nat)) true, Blk.mk mn (Cont.mape (ByteArray × Int) kyM vlM mkM es clock) true, Blk.mk n1 (Cont.cells [AV.ptr (0 : Nat) hn (0 : Nat)] (23 : Nat)) true, Blk.mk n2 (Cont.cells [AV.mp (1 : Nat) mn] (53 : Nat)) true, Blk.mk n10 (Cont.lst (0 : Nat) l.length [Col.strs (atS l)] S (some (n11, (9 : TypeId)))) true] mx = some (Blk.mk mn_2 (Cont.mape (ByteArray × Int) kyM vlM mkM es_2 clock_2) o3) ∧ some (Blk.mk n10 (Cont.lst (0 : Nat) l.length [Col.strs (atS l)] S (some (n11, (9 : TypeId)))) true) = some (Blk.mk n10 (Cont.lst (0 : Nat) l.length [Col.strs (atS l_1)] S_1 (some (n11, (9 : TypeId)))) true) ∧ l.length = l_1.length ∧ List.Pairwise (fun (x1 x2 : Nat) => x1 ≠ x2) [(4 : Nat), (2 : Nat), hx, mx] ∧ keysOk es_2 ∧ l_1.length ≤ (1048576 : Nat) ∧ R (AV.os (4 : Nat) a n10 (0 : Nat) (0 : Nat) (1 : Nat) l.length n11) [Blk.mk hn (Cont.cells [AV.v (Value.int IntKind.i64 m), AV.v (Value.int IntKind.i64 (0 : Int)), AV.v (Value.slice none (0 : Nat) (0 : Nat)), AV.mp (1 : Nat) mn] (55 : Nat)) true, Blk.mk mn (Cont.mape (ByteArray × Int) kyM vlM mkM es clock) true, Blk.mk n1 (Cont.cells [AV.ptr (0 : Nat) hn (0 : Nat)] (23 : Nat)) true, Blk.mk n2 (Cont.cells [AV.mp (1 : Nat) mn] (53 : Nat)) true, Blk.mk n10 (Cont.lst (0 : Nat) l.length [Col.strs (atS (sortNm es_2 l_1))] S_1 (some (n11, (9 : TypeId)))) true])) : LC Try.prog 21 [.ptr 0 hn 0] [⟨hn, .cells [.v (.int .i64 m), .v (.int .i64 0), .v (.slice none 0 0), .mp 1 mn] 55, true⟩, ⟨mn, .mape (ByteArray × Int) kyM vlM mkM es clock, true⟩] R :=
  lc_of_exec (tbl := tbMk) tab_ok tbMk_ok mixed noinv 2 _ Try.func21 rfl Try.ntmps21 (by decide) (by kernel_rfl) (Nat.le_of_ble_eq_true rfl) (@Eq.mpr (execN tab tbMk noinv 2 Try.f21.ntmps [] none 0 (body Try.f21) (argsT [.ptr 0 hn 0] 0) [⟨hn, .cells [.v (.int .i64 m), .v (.int .i64 0), .v (.slice none 0 0), .mp 1 mn] 55, true⟩, ⟨mn, .mape (ByteArray × Int) kyM vlM mkM es clock, true⟩] (post Try.f21 tab (retK R))) _ (by kernel_rfl) h)



set_option maxRecDepth 100000 in
theorem mks1_vc (hn mn an : Nat) (m : Int) (at_ : Nat) (es : MK) (clock : Nat) (r len cap N : Nat) (g : Nat → Int) {R : AV → HH → Prop} (h : (∀ (n1 : Nat), n1 = n1 ∧ hn = hn ∧ n1 = n1 ∧ hn = hn ∧ ∀ (n2 : Nat), ∃ (mx : Nat), ∃ (mn_1 : Nat), ∃ (clock_1 : Nat), ∃ (es_1 : MK), ∃ (o1 : Bool), ∃ (o2 : Bool), some (Blk.mk n2 (Cont.cells [AV.mp (1 : Nat) mn] (53 : Nat)) true) = some (Blk.mk n2 (Cont.cells [AV.mp mx mn_1] (53 : Nat)) o1) ∧ nth [Blk.mk hn (Cont.cells [AV.v (Value.int IntKind.i64 m), AV.v (Value.int IntKind.i64 (↑at_ : Int)), AV.sl (2 : Nat) an r (1 : Nat) len cap, AV.mp (1 : Nat) mn] (55 : Nat)) true, Blk.mk mn (Cont.mape (ByteArray × Int) kyM vlM mkM es clock) true, Blk.mk an (Cont.rows N [Col.ints IntKind.i64 g] (3 : TypeId)) true, Blk.mk n1 (Cont.cells [AV.ptr (0 : Nat) hn (0 : Nat)] (23 : Nat)) true, Blk.mk n2 (Cont.cells [AV.mp (1 : Nat) mn] (53 : Nat)) true] mx = some (Blk.mk mn_1 (Cont.mape (ByteArray × Int) kyM vlM mkM es_1 clock_1) o2) ∧ List.Pairwise (fun (x1 x2 : Nat) => x1 ≠ x2) [(4 : Nat), mx] ∧ keysOk es_1 ∧ List.length es_1 ≤ (1048576 : Nat) ∧ ∀ (a : Option Addr) (n10 n11 : Nat) (S : List Nat) (l : List ByteArray), l.Perm (List.map (fun (e : (ByteArray × Int) × Nat) => e.fst.fst) es_1) → emptyOk a n10 l.length n11 → ∃ (hx : Nat), ∃ (hn_1 : Nat), ∃ (mx : Nat), ∃ (mn_2 : Nat), ∃ (clock_2 : Nat), ∃ (m_1 : Int), ∃ (at__1 : Int), ∃ (sl : AV), ∃ (es_2 : MK), ∃ (o1 : Bool), ∃ (o2 : Bool), ∃ (o3 : Bool), ∃ (S_1 : List Nat), ∃ (l_1 : List ByteArray), some (Blk.mk n1 (Cont.cells [AV.ptr (0 : Nat) hn (0 : Nat)] (23 : Nat)) true) = some (Blk.mk n1 (Cont.cells [AV.ptr hx hn_1 (0 : Nat)] (23 : Nat)) o1) ∧ nth [Blk.mk hn (Cont.cells [AV.v (Value.int IntKind.i64 m), AV.v (Value.int IntKind.i64 (↑at_ : Int)), AV.sl (2 : Nat) an r (1 : Nat) len cap, AV.mp (1 : Nat) mn] (55 : Nat)) true, Blk.mk mn (Cont.mape (ByteArray × Int) kyM vlM mkM es clock) true, Blk.mk an (Cont.rows N [Col.ints IntKind.i64 g] (3 : TypeId)) true, Blk.mk n1 (Cont.cells [AV.ptr (0 : Nat) hn (0 : Nat)] (23 : Nat)) true, Blk.mk n2 (Cont.cells [AV.mp (1 : Nat) mn] (53 : Nat)) true, Blk.mk n10 (Cont.lst (0 : Nat) l.length [Col.strs (atS l)] S (some (n11, (9 : TypeId)))) true] hx = some (Blk.mk hn_1 (Cont.cells [AV.v (Value.int IntKind.i64 m_1), AV.v (Value.int IntKind.i64 at__1), sl, AV.mp mx mn_2] (55 : Nat)) o2) ∧ nth [Blk.mk hn (Cont.cells [AV.v (Value.int IntKind.i64 m), AV.v (Value.int IntKind.i64 (↑at_ : Int)), AV.sl (2 : Nat) an r (1 : Nat) len cap, AV.mp (1 : Nat) mn] (55 : Nat)) true, Blk.mk mn (Cont.mape (ByteArray × Int) kyM vlM mkM es clock) true, Blk.mk an (Cont.rows N [Col.ints IntKind.i64 g] (3 : TypeId)) true, Blk.mk n1 (Cont.cells [AV.ptr (0 : Nat) hn (0 : Nat)] (23 : Nat)) true, Blk.mk n2 (Cont.cells [AV.mp (1 : Nat) mn] (53 : Nat)) true, Blk.mk n10 (Cont.lst (0 : Nat) l.length [Col.strs (atS l)] S (some (n11, (9 : TypeId)))) true] mx = some (Blk.mk mn_2 (Cont.mape (ByteArray × Int) kyM vlM mkM es_2 clock_2) o3) ∧ some (Blk.mk n10 (Cont.lst (0 : Nat) l.length [Col.strs (atS l)] S (some (n11, (9 : TypeId)))) true) = some (Blk.mk n10 (Cont.lst (0 : Nat) l.length [Col.strs (atS l_1)] S_1 (some (n11, (9 : TypeId)))) true) ∧ l.length = l_1.length ∧ List.Pairwise (fun (x1 x2 : Nat) => x1 ≠ x2) [(5 : Nat), (3 : Nat), hx, mx] ∧ keysOk es_2 ∧ l_1.length ≤ (1048576 : Nat) ∧ R (AV.os (5 : Nat) a n10 (0 : Nat) (0 : Nat) (1 : Nat) l.length n11) [Blk.mk hn (Cont.cells [AV.v (Value.int IntKind.i64 m), AV.v (Value.int IntKind.i64 (↑at_ : Int)), AV.sl (2 : Nat) an r (1 : Nat) len cap, AV.mp (1 : Nat) mn] (55 : Nat)) true, Blk.mk mn (Cont.mape (ByteArray × Int) kyM vlM mkM es clock) true, Blk.mk an (Cont.rows N [Col.ints IntKind.i64 g] (3 : TypeId)) true, Blk.mk n1 (Cont.cells [AV.ptr (0 : Nat) hn (0 : Nat)] (23 : Nat)) true, Blk.mk n2 (Cont.cells [AV.mp (1 : Nat) mn] (53 : Nat)) true, Blk.mk n10 (Cont.lst (0 : Nat) l.length [Col.strs (atS (sortNm es_2 l_1))] S_1 (some (n11, (9 : TypeId)))) true])) : LC Try.prog 21 [.ptr 0 hn 0] [⟨hn, .cells [.v (.int .i64 m), .v (.int .i64 (at_ : Int)), .sl 2 an r 1 len cap, .mp 1 mn] 55, true⟩, ⟨mn, .mape (ByteArray × Int) kyM vlM mkM es clock, true⟩, ⟨an, .rows N [.ints .i64 g] 3, true⟩] R :=
  lc_of_exec (tbl := tbMk) tab_ok tbMk_ok mixed noinv 2 _ Try.func21 rfl Try.ntmps21 (by decide) (by kernel_rfl) (Nat.le_of_ble_eq_true rfl) (@Eq.mpr (execN tab tbMk noinv 2 Try.f21.ntmps [] none 0 (body Try.f21) (argsT [.ptr 0 hn 0] 0) [⟨hn, .cells [.v (.int .i64 m), .v (.int .i64 (at_ : Int)), .sl 2 an r 1 len cap, .mp 1 mn] 55, true⟩, ⟨mn, .mape (ByteArray × Int) kyM vlM mkM es clock, true⟩, ⟨an, .rows N [.ints .i64 g] 3, true⟩] (post Try.f21 tab (retK R))) _ (by kernel_rfl) h)


end Go.Proofs.Ytkjnkepdhbpnbaa

