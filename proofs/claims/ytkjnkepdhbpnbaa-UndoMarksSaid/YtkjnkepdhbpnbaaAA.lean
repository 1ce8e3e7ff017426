/- Undo: names sorted by the library. -/
import Derived.Test.YtkjnkepdhbpnbaaZ
import Derived.Test.YtkjnkepdhbpnbaaShelf
namespace Go.Eng
open Go.Sp

/-- A call of the sort, over names that were gathered. -/
def sortH : Handler := fun _ args H K =>
  match args with
  | [.os id a n 0 0 1 len cap, .fn (.func 35) [] [.ptr bx bn 0]] => ∃ (hx hn mx mn clock : Nat) (m at_ : Int) (sl : AV) (es : MK) (o1 o2 o3 : Bool) (S : List Nat) (l : List ByteArray),
    nth H bx = some ⟨bn, .cells [.ptr hx hn 0] 23, o1⟩ ∧ nth H hx = some ⟨hn, .cells [.v (.int .i64 m), .v (.int .i64 at_), sl, .mp mx mn] 55, o2⟩ ∧ nth H mx = some ⟨mn, .mape (ByteArray × Int) kyM vlM mkM es clock, o3⟩ ∧
    nth H id = some ⟨n, .lst 0 len [.strs (atS l)] S (some (cap, 9)), true⟩ ∧ len = l.length ∧ [id, bx, hx, mx].Nodup ∧ keysOk es ∧ l.length ≤ 1048576 ∧
    K (.ret (.tup [])) (H.set id ⟨n, .lst 0 len [.strs (atS (sortNm es l))] S (some (cap, 9)), true⟩)
  | _ => False
end Go.Eng
namespace Go.Proofs.Ytkjnkepdhbpnbaa
open Go Go.Eng Go.Sp Go.Sort Go.Proofs
set_option linter.unusedVariables false
set_option linter.unusedSimpArgs false

theorem sort_calls (p : Option Addr) (w : World) (n cap bn : Nat) (es : MK) (d : Array ByteArray) (hd : 0 < d.size) (hsz : d.size ≤ 1048576) (hH : Holds Value.string w n 0 d) (hn : n < w.heap.size)
    (hcmp : CmpLays1 Try.prog 35 #[.pointer (some ⟨bn, 0, none⟩)] Value.string (cfM es) n 0 d.size w) :
    Calls Try.prog 42 #[.slice (some ⟨n, 0, none⟩) d.size cap, .func (.func 35) #[] #[.pointer (some ⟨bn, 0, none⟩)]] w fun e w' => e = .returned (.tuple #[]) ∧ ∃ q os, w' = sortWorld Value.string w n 0 q (sortNm es d.toList).toArray os := by
  have eg : ∀ args w, (callFunc 35 args).run Try.prog w = .ok (.enter 35 args) w := enters_of (c := body Try.f35) Try.func35 rfl (by kernel_rfl)
  exact Try.slices_SortFunc_total Value.string (fun _ => rfl) (cfM es) (swoM es) 35 #[.pointer (some ⟨bn, 0, none⟩)] n 0 cap d w eg hcmp hH hn (by omega) (fun x y h1 h2 => ahead_tri (ltOf_false.1 h1) (ltOf_false.1 h2))

theorem sort_none (p : Option Addr) (cap : Nat) (fv : Value) (w : World) : Calls Try.prog 42 #[.slice p 0 cap, fv] w fun e w' => e = .returned (.tuple #[]) ∧ w' = w :=
  Try.slices_SortFunc_none (α := ByteArray) p cap fv w

theorem sortH_ok : HOk Try.prog 42 sortH := by
  refine ⟨enters_of (c := body Try.f42) Try.func42 rfl (by kernel_rfl), fun rs _ args H K w hw hk => ?_⟩
  unfold sortH at hk
  split at hk
  · rename_i id a n len cap bx bn
    obtain ⟨hx, hn, mx, mn, clock, m, at_, sl, es, o1, o2, o3, S, l, hb1, hb2, hb3, hb, rfl, hnd, hkey, hl, hk⟩ := hk
    rw [nth_eq] at hb1 hb2 hb3 hb
    by_cases hl0 : l.length = 0
    · have hl1 : l = [] := List.eq_nil_of_length_eq_zero hl0
      subst hl1
      refine (sort_none (if ([] : List ByteArray).length = 0 then a else some ⟨n, 0 + 0 * 1, none⟩) cap _ w).mono fun e w' hq => ?_
      obtain ⟨rfl, rfl⟩ := hq
      refine ⟨_, _, rfl, hk, ?_⟩
      have e1 : H.set id ⟨n, .lst 0 ([] : List ByteArray).length [.strs (atS (sortNm es []))] S (some (cap, 9)), true⟩ = H := by
        apply List.ext_getElem?
        intro j
        rw [List.getElem?_set]
        split
        · rename_i ej; subst ej
          split
          · rw [hb]; simp [sortNm]
          · rename_i hl; rw [List.getElem?_eq_none (by omega)] at hb; cases hb
        · rfl
      rw [e1]
      exact (HeapOk.enter hw).toExt
    · have hpos : 0 < l.length := by omega
      have hbl := hw.all id _ hb
      obtain ⟨hH, hlt⟩ := lst_holds hbl (d := l.toArray) (by simp) hpos (fun i hi => by simp [atS_get hi, hi])
      have hnS : n ∈ S := ((hbl.2.1) hpos).1
      have hin : HoldsH [⟨bn, .cells [.ptr 1 hn 0] 23, false⟩, ⟨hn, .cells [.v (.int .i64 m), .v (.int .i64 at_), .v sl.den, .mp 2 mn] 55, false⟩, ⟨mn, .mape (ByteArray × Int) kyM vlM mkM es clock, false⟩] w := by
        refine (leAt (H := H) [bx, hx, mx] (List.nodup_cons.1 hnd).2 ?_).holds w hw
        simp only [pickH, nth_eq, hb1, hb2, hb3]
        exact ⟨LeB.cells rfl (fun h => (by cases h)), LeB.cells rfl (fun h => (by cases h)), ⟨fun k hk => hk, fun h => (by cases h), fun w hw => hw⟩, trivial⟩
      have hap : ∀ k ∈ ([bn, hn, mn] : List Nat), k ≠ n := by
        have hnd2 := (List.nodup_cons.1 hnd).1
        intro k hm e
        rw [e] at hm
        simp only [List.mem_cons, List.not_mem_nil, or_false] at hm hnd2
        rcases hm with h | h | h
        · exact hw.apart bx id _ _ hb1 hb (fun e => hnd2 (.inl e.symm)) n (by rw [h]; exact List.mem_singleton.2 rfl) hnS
        · exact hw.apart hx id _ _ hb2 hb (fun e => hnd2 (.inr (.inl e.symm))) n (by rw [h]; exact List.mem_singleton.2 rfl) hnS
        · exact hw.apart mx id _ _ hb3 hb (fun e => hnd2 (.inr (.inr e.symm))) n (by rw [h]; exact List.mem_singleton.2 rfl) hnS
      have hcmp : CmpLays1 Try.prog 35 #[.pointer (some ⟨bn, 0, none⟩)] Value.string (cfM es) n 0 l.toArray.size w := by
        intro m' os dk hs x y
        refine ((byn_lc bn hn mn m at_ sl.den es clock x y hkey).calls (sortWorld Value.string w n 0 m' dk os) (hin.same fun k hk => ?_)).mono fun e w' hq => ?_
        · have hk2 : k ∈ ([bn, hn, mn] : List Nat) := by simpa [numsAll, Blk.nums, Cont.nums] using hk
          exact sortWorld_old (hin.lt k hk) (hap k hk2)
        · obtain ⟨v, H', rfl, rfl, hx'⟩ := hq
          have fr : Frm [] (sortWorld Value.string w n 0 m' dk os) w' := by have := hx'.fr; simpa [ownNums] using this
          exact ⟨rfl, frm_grown fr fr.dr⟩
      have hden : (denL [AV.os id a n 0 0 1 l.length cap, .fn (.func 35) [] [.ptr bx bn 0]]).toArray = #[.slice (some ⟨n, 0, none⟩) l.toArray.size cap, .func (.func 35) #[] #[.pointer (some ⟨bn, 0, none⟩)]] := by
        simp [denL, AV.den, hl0]
      rw [hden]
      refine (sort_calls none w n cap bn es l.toArray (by simpa using hpos) (by simpa using hl) hH hlt hcmp).mono fun e w' hq => ?_
      obtain ⟨rfl, q, os, rfl⟩ := hq
      refine ⟨_, _, rfl, hk, ?_⟩
      exact sort_ext hw hb hpos (by simp) (fun i hi => by
        have hi2 : i < (sortNm es l).length := by simpa using hi
        rw [atS_get hi2]
        simp [hi])
  · exact hk.elim
end Go.Proofs.Ytkjnkepdhbpnbaa

