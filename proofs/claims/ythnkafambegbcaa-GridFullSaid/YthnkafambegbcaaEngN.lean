import Derived.Test.YthnkafambegbcaaEngG
import Derived.Laws.Externs
import Derived.Lib.Builder
import Derived.Lib.MakeNoZero
set_option linter.unusedSimpArgs false
namespace Go.Eng
open Go Go.Sp
def mergeFlag : List AV → HH → (AV → HH → Prop) → Prop := fun _ _ _ => False
theorem flag_ok {P : Program} {f : FuncId} : XOk P f mergeFlag := ⟨fun _ _ _ _ _ h => h.elim⟩
def idH : List AV → HH → (AV → HH → Prop) → Prop := fun args H K =>
  match args with
  | [v] => K v H
  | _ => False
theorem idH_ok {P : Program} {f : FuncId} {fn : Func} (hf : P.funcs[f]? = some fn) (hname : (fn.name == "runtime.NumGoroutine") = false) (hb : fn.body.isNone = true) (hn : Extern.findNext fn = none) (he : Extern.find fn = some Extern.AbiNoEscape.same) : XOk P f idH := ⟨fun args H K w hh h => by
  unfold idH at h
  split at h
  · rename_i v
    refine ⟨v, H, w, ?_, h, (HeapOk.enter hh).toExt⟩
    rw [run_callFunc_extern hf hname hb hn he]
    rfl
  · exact h.elim⟩
def makeH (e : TypeId) : List AV → HH → (AV → HH → Prop) → Prop := fun args H K =>
  match args with
  | [.v (.int .i64 n)] => (1 ≤ n ∧ n ≤ 281474976710656) ∧ ∀ m c, n.toNat ≤ c → K (.sl H.length m 0 1 n.toNat c) (H ++ [⟨m, .buf ByteArray.empty c e, true⟩])
  | _ => False
theorem makeH_ok {P : Program} {f : FuncId} {fn : Func} {ps : Array TypeId} {t e : TypeId} (ht : P.underlying t = some (.slice e)) (hf : P.funcs[f]? = some fn) (hname : (fn.name == "runtime.NumGoroutine") = false) (hb : fn.body.isNone = true) (hn : Extern.findNext fn = none) (he : Extern.find fn = some (Extern.BytealgMakeNoZero.makeNoZero ps #[t])) : XOk P f (makeH e) := ⟨fun args H K w hh h => by
  unfold makeH at h
  split at h
  · rename_i n
    obtain ⟨⟨h1, h2⟩, h⟩ := h
    obtain ⟨k, rfl⟩ : ∃ k : Nat, n = (k : Int) := ⟨n.toNat, by omega⟩
    obtain ⟨cs, hr, hc, _⟩ := Go.Lib.run_makeNoZero (P := P) (w := w) ps t e ht k (by omega)
    simp only [Int.toNat_natCast] at h
    have hh1 : HeapOk w H H w.drew.drew := (HeapOk.enter hh).same { heap := rfl, os := rfl, tape := rfl, output := rfl, dr := Dr.of_le (Nat.le_add_right w.drawn 2) }
    refine ⟨_, _, w.drew.drew.alloc (.cells cs e), ?_, h w.heap.size cs.size hc, (hh1.alloc (.cells cs e) (.buf ByteArray.empty cs.size e) ?_).toExt⟩
    · rw [run_callFunc_extern hf hname hb hn he]
      have : (denL [AV.v (Value.int .i64 (k : Int))]).toArray = #[.int .i64 (k : Int)] := rfl
      rw [this, hr]
      simp [Result.andThen, AV.den]
    · exact ⟨cs.toList, (0, 0), by rw [Array.toArray_toList]; exact alloc_at w.drew.drew _, by simp, by simp, by omega, by simp, .inl rfl, fun i hi => by simp at hi⟩
  · exact h.elim⟩
end Go.Eng
