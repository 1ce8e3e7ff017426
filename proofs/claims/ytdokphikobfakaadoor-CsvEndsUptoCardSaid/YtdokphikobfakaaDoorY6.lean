/- What a row gives when its variables are laid and a variable of the library's is read, too. -/
import Derived.Test.YtdokphikobfakaaDoorEngR
import Derived.Test.YtdokphikobfakaaDoorY5
import Derived.SizedLaws
import Derived.Shelf.Vars
namespace Go.Eng
open Go
set_option linter.unusedVariables false

/-- The wrap with a premise on the world, the world's shape kept. -/
theorem handed_and_shaped {H : Type} {enc : TypeId × Value → H} {a : Assume} {C : Checked} {os : Os} {f : FuncId} {fn : Func} {s : ChangeSpec} {conds : List PathCond} {apart fresh handsOn again : Bool} {X : World → Array Value → Prop}
    (same : ∀ (w w' : World) (args : Array Value), w.heap = w'.heap → X w args → X w' args)
    (own : ownKnob C.prog.godebug = none) (started : os.Started) (noInit : C.prog.inits.idxOf? f = none) (hfn : C.prog.funcs[f]? = some fn)
    (wit : ∃ (w : World) (tape : Tape) (i : Input), w.os = os ∧ (w.forCall tape i).Shaped C.prog ∧ i.vars = [] ∧ Input.okWide C.prog (w.forCall tape i) .any w.heap.size f i ∧
      ((s.pre enc C.prog fn conds apart (w.forCall tape i).memory i.args ∧ X (w.forCall tape i).memory i.args) ∧ sizedMet enc C.prog fn (OpenSpec.ofChange s) apart (w.forCall tape i).memory i.args) ∧ a.holds C.prog (lone (Frame.enter C.prog f i.args .normal) [] (w.forCall tape i)))
    (law : ∀ (W : World) (base : Nat) (args : Array Value) (ds gs : List (DataW H)) (before : List MemPlace),
      (∀ (j : Nat) t v, fn.params[j]? = some t → args[j]? = some v → Value.okWide C.prog W .any base t v) →
      DataW.Whole enc C.prog fn.params.toList s.vars apart W args.toList ds gs before →
      conds.all (PathCond.test C.prog ⟨fn.params.toList, ds, s.plain.varTypes C.prog, gs⟩) = true →
      (DataW.weightsEach C.prog (fn.params.toList ++ s.plain.varTypes C.prog) (ds ++ gs)).all (· ≤ reachBytes) = true → X W args → W.ShapedOpen C.prog →
      a.holds C.prog (lone (Frame.enter C.prog f args .normal) [] W) →
      Calls C.prog f args W fun e W' => ∃ v, e = .returned v ∧ s.post enc C.prog fn apart fresh handsOn again W args v W') :
    ReturnsInHanded a C os f .any (fun w args => (s.pre enc C.prog fn conds apart w args ∧ X w args) ∧ sizedMet enc C.prog fn (OpenSpec.ofChange s) apart w args) (s.post enc C.prog fn apart fresh handsOn again) :=
  returnsInHanded_of_calls own started noInit wit fun w tape i _ shape _ hok hpre hh => by
    obtain ⟨_, _, _, fn2, h2, _, _, _, _, hval⟩ := hok
    cases Option.some.inj (h2.symm.trans hfn)
    obtain ⟨⟨⟨ds, gs, before, whole, hc⟩, hx⟩, hz⟩ := hpre
    have main := law (w.forCall tape i) w.heap.size i.args ds gs before hval (DataW.Whole.of_heap (w' := w.forCall tape i) (by rfl) whole) hc (hz.weights whole) (same _ _ _ (by rfl) hx) shape hh
    refine main.mono fun e W' he => ?_
    obtain ⟨v, rfl, hp⟩ := he
    exact ChangeSpec.post_blind hp

theorem one_of_shaped {P : Program} {w : World} {g : Nat} {t : TypeId} {zero : Array Value} {k : IntKind}
    (h : w.ShapedOpen P) (hg : g < P.globals.size)
    (h0 : ((begin P (fun _ _ => 0) default).world.heap[g]?).bind Obj.row? = some (zero, t)) (hz : zero.size = 1)
    (hb : P.buildable t = true) (hc : P.cellTypes P.depth t = some [t]) (hu : P.underlying t = some (.int k)) :
    ∃ m, w.heap[g]? = some (.cells #[.int k m] t) := by
  obtain ⟨m, hm⟩ := Go.Proofs.cell_of_shapedOpen_int h hg h0 hz hb hc hu
  obtain ⟨cs, hh, hs, _⟩ := h.1 g zero t hg h0
  refine ⟨m, ?_⟩
  have h1 : cs.size = 1 := by omega
  have h2 : cs[0]? = some (.int k m) := by simpa [World.cell?, hh] using hm
  have h3 : cs = #[.int k m] := by
    apply Array.ext
    · simp [h1]
    · intro i hi hj
      obtain rfl : i = 0 := by omega
      have := Array.getElem?_eq_getElem (xs := cs) (i := 0) (by omega)
      rw [h2] at this
      simpa using (Option.some.inj this).symm
  rw [hh, h3]

/-- The variable's cell, and a slice of slices. -/
theorem holds_two {w : World} {m : Int} {t : TypeId} {n o len : Nat} {g : Nat → SV} (h0 : w.heap[0]? = some (.cells #[.int .i64 m] t)) (hv : (Cont.view o len [.slcs g]).holds w n) (hl : 0 < len) : HoldsH [gB m, ⟨n, .view o len [.slcs g], false⟩] w := by
  have hg : HoldsH [gB m] w := cell_gB (by simp [World.cell?, h0])
  have hn : n ≠ 0 := by
    rintro rfl
    obtain ⟨c, ty, fz, hc, hx⟩ := hv
    rw [h0] at hc
    have hx := hx 0 hl 0 (.v (.slice (g 0).a (g 0).len (g 0).cap)) rfl
    simp only [Option.some.injEq, Obj.cells.injEq] at hc
    have hcl : c = [.int .i64 m] := by
      have := congrArg Array.toList hc.1
      simpa using this.symm
    rw [hcl] at hx
    cases o with
    | zero => simp [AV.den] at hx
    | succ o => simp at hx
  refine ⟨fun i b hi => ?_, fun i j b c hi hj hij => ?_⟩
  · cases i with
    | zero => exact hg.all 0 b (by simpa using hi)
    | succ i =>
      cases i with
      | zero => simp at hi; subst hi; exact hv
      | succ i => simp at hi
  · match i, j, hi, hj, hij with
    | 0, 0, _, _, hij => exact absurd rfl hij
    | 0, 1, hi, hj, _ => simp at hi hj; subst hi; subst hj; intro k hk; simp [Blk.nums, Cont.nums, gB] at hk ⊢; omega
    | 0, j + 2, _, hj, _ => simp at hj
    | 1, 0, hi, hj, _ => simp at hi hj; subst hi; subst hj; intro k hk; simp [Blk.nums, Cont.nums, gB] at hk ⊢; omega
    | 1, 1, _, _, hij => exact absurd rfl hij
    | 1, j + 2, _, hj, _ => simp at hj
    | i + 2, _, hi, _, _ => simp at hi

section
variable {H : Type} {enc : TypeId × Value → H} {P : Program} {w : World} {base : Nat} {spare : Nat → Bool} {held : Bool}

/-- How long a slice may be, by how much it weighs. -/
theorem slice_weight {t e fuel : Nat} {a : Option Addr} {len cap j : Nat} {d : DataW H} {pl : List MemPlace} {ts : List TypeId} {ds : List (DataW H)} (hu : P.underlying t = some (.slice e)) (h : DataW.trod enc P w base spare held fuel t [.slice a len cap] = some (d, pl)) (hw : (DataW.weightsEach P ts ds).all (· ≤ reachBytes) = true) (ht : ts[j]? = some t) (hd : ds[j]? = some d) : len * P.bytesOf e ≤ 140737488351232 := by
  rcases Go.Deep.open_slice hu h with ⟨h1, _⟩ | ⟨a, len', cap', m, n, D, Pl, h1, _, _, _, _, h2, _⟩
  · simp only [List.cons.injEq, Value.slice.injEq, and_true] at h1
    rw [h1.2.1]; omega
  · simp only [List.cons.injEq, Value.slice.injEq, and_true] at h1
    simp only [Prod.mk.injEq] at h2
    rw [h2.1] at hd
    have := sized_slice hw ht hd hu
    rw [List.length_map, List.length_range, Nat.add_mul] at this
    have hr : reachBytes = 140737488351232 := rfl
    rw [h1.2.1]
    omega
end
end Go.Eng

