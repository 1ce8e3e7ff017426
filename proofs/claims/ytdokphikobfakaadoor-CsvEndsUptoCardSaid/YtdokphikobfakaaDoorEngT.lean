/- The engine: a function that defers one closure, which takes a panic back. -/
import Derived.Test.YtdokphikobfakaaDoorEngQ
import Derived.RecoverIn
set_option linter.unusedSimpArgs false
set_option linter.unusedVariables false
namespace Go.Eng
open Go

theorem Code.mono_wp {c : Code} {F : Fence} {n : Nat} {P : Program} {Q Q' : Exit → Act → World → Prop} {a : Act} {w : World} (h : c.wpIn F n P Q a w) (hq : ∀ e a' w', Q e a' w' → Q' e a' w') : c.wpIn F n P Q' a w := wpIn_mono h hq

/-- The body of the closure, from its recover on, which told 'v'. -/
def recoverK (tab : Tab) (tbl : Tbl) (inv : Inv) (fn : Func) (args : List AV) (v : AV) (H : HH) (K : HH → Prop) : Prop :=
  match body fn with
  | .seq (.region _ ops false) rest =>
    match ops.toList with
    | [⟨some d, .call c, _, _, _, none⟩, ⟨some d2, .assign (.tmp d3), _, _, _, none⟩] =>
      ck ((match c.callee with | .builtin .recover => true | _ => false) && c.args.toList.isEmpty && Nat.beq d d3 && Nat.blt d fn.ntmps && Nat.blt d2 fn.ntmps && codeOk tab fn.ntmps rest && noRF rest && Nat.ble args.length fn.ntmps && fn.results.toList.isEmpty) <|
      exec tab tbl inv (fun _ _ _ _ _ _ _ _ _ _ _ => False) fn.ntmps [] none 0 rest ((d2, v) :: (d, v) :: argsT args 0) H fun e _ H' =>
        match e with
        | .norm => K H'
        | .ret => K H'
        | _ => False
    | _ => False
  | _ => False

/-- A function whose second step defers a closure. -/
def guardK (tab : Tab) (tbl : Tbl) (inv : Inv) (fn fc : Func) (g : FuncId) (args : List AV) (H : HH) (K : HK) : Prop :=
  match body fn with
  | .seq r0 (.seq (.region _ ops false) rest) =>
    match ops.toList with
    | [⟨some d, .makeFunc (.func g') first cap, _, _, _, none⟩, ⟨none, .defer c, _, _, _, none⟩] =>
      ck (Nat.beq g g' && (match c.callee with | .value (.tmp d') => Nat.beq d d' | _ => false) && c.args.toList.isEmpty && Nat.blt d fn.ntmps && codeOk tab fn.ntmps r0 && codeOk tab fn.ntmps rest && noRF r0 && noRF rest && Nat.ble args.length fn.ntmps) <|
      exec tab tbl inv (fun _ _ _ _ _ _ _ _ _ _ _ => False) fn.ntmps [] none 0 r0 (argsT args 0) H fun e T H =>
        match e with
        | .norm => evalL T first.toList fun a => evalL T cap.toList fun b =>
          exec tab tbl inv (fun _ _ _ _ _ _ _ _ _ _ _ => False) fn.ntmps [] none 0 rest ((d, .fn (.func g) a b) :: T) H fun e T H =>
            match e with
            | .norm => recoverK tab tbl inv fc (a ++ b) (.v .nilIface) H fun H => resK tab T H fn.results.toList fun vs => K (.ret (resV vs)) H
            | .ret => recoverK tab tbl inv fc (a ++ b) (.v .nilIface) H fun H => resK tab T H fn.results.toList fun vs => K (.ret (resV vs)) H
            | .pan v => recoverK tab tbl inv fc (a ++ b) v H fun H => resK tab T H fn.results.toList fun vs => K (.ret (resV vs)) H
            | .exit _ => False
        | _ => False
    | _ => False
  | _ => False

section
variable {F : Fence} {n : Nat} {P : Program} {ops : Array Oper} {i : Nat} {rest : List Nat} {o : Oper} {a : Act} {w w' : World} {v : Value} (hF : ∀ f, F.fn f) (ho : ops[i]? = some o) (hg : o.guard = none)
include hF ho hg

theorem opsS_value {Q : Exit → Act → List Frame → World → Prop} {cs : List Frame} (hr : (execOp a.eval o).run P w = .ok (.value v) w') (h : wpOpsSIn F n P ops Q rest (a.put o.dst v) cs w') : wpOpsSIn F n P ops Q (i :: rest) a cs w := by
  simp only [wpOpsSIn, ho]
  refine ⟨fun f _ => hF f, ?_⟩
  rw [if_pos (by simp [Region.wanted, hg]), hr]
  exact h

theorem opsS_rec_some {Q : Exit → Act → List Frame → World → Prop} {cs cs' : List Frame} (hr : (execOp a.eval o).run P w = .ok .recover w') (hc : recoverD cs = some (v, cs')) (h : wpOpsSIn F n P ops Q rest (a.put o.dst v) cs' w') : wpOpsSIn F n P ops Q (i :: rest) a cs w := by
  simp only [wpOpsSIn, ho]
  refine ⟨fun f _ => hF f, ?_⟩
  rw [if_pos (by simp [Region.wanted, hg]), hr]
  simp only [hc]
  exact h

theorem opsS_rec_none {Q : Exit → Act → List Frame → World → Prop} {cs : List Frame} (hr : (execOp a.eval o).run P w = .ok .recover w') (hc : recoverD cs = none) (h : wpOpsSIn F n P ops Q rest (a.put o.dst .nilIface) cs w') : wpOpsSIn F n P ops Q (i :: rest) a cs w := by
  simp only [wpOpsSIn, ho]
  refine ⟨fun f _ => hF f, ?_⟩
  rw [if_pos (by simp [Region.wanted, hg]), hr]
  simp only [hc]
  exact h

theorem ops_value {Q : Exit → Act → World → Prop} (hnd : ∀ c, o.op ≠ .defer c) (hr : (execOp a.eval o).run P w = .ok (.value v) w') (h : wpOpsIn F n P ops Q rest (a.put o.dst v) w') : wpOpsIn F n P ops Q (i :: rest) a w := by
  simp only [wpOpsIn, ho]
  rw [if_pos (by simp [Region.wanted, hg])]
  refine ⟨fun f _ => hF f, ?_⟩
  rw [Oper.semAt_eq _ _ _ hnd, hr]
  exact h

theorem ops_defer {Q : Exit → Act → World → Prop} {d : Deferred} (hro : F.round = none) (hr : (execOp a.eval o).run P w = .ok (.defer d) w') (h : wpOpsIn F n P ops Q rest ({ a with defers := d :: a.defers }.put o.dst undef) w') : wpOpsIn F n P ops Q (i :: rest) a w := by
  simp only [wpOpsIn, ho]
  rw [if_pos (by simp [Region.wanted, hg])]
  refine ⟨fun f _ => hF f, ?_⟩
  rw [hro, Oper.semAt_none, hr]
  exact h
end

section
variable {P : Program} {tab : Tab} {tbl : Tbl}

theorem exec0_sound (ht : TabOk P tab) (hb : TblOk P tbl) (hmix : P.follows .mixedOrders = true) (inv : Inv) {nt : Nat} {ds : DS} {w0 : World} {fp : HH} {c : Code} {blk : Nat} {T : TT} {H : HH} {K : Ex → TT → HH → Prop} {a : Act} {w : World}
    (hok : codeOk tab nt c = true) (hnr : noRF c = true) (g : Gam nt ds w0 fp T H a w) (h : exec tab tbl inv (fun _ _ _ _ _ _ _ _ _ _ _ => False) nt [] none blk c T H K) : c.wpIn (FW none) 0 P (ExPost nt ds w0 fp K) a w :=
  exec_sound (rs := []) ht hb hmix inv (fun _ _ _ _ _ _ _ _ _ _ _ _ _ _ _ _ _ h => h.elim) trivial none c blk T H K a w hok (fun _ => hnr) g h

def DS.one (l : List Deferred) : DS := ⟨l, true⟩

theorem Gam.defers {nt : Nat} {l : List Deferred} {w0 : World} {fp : HH} {T : TT} {H : HH} {a : Act} {w : World} (g : Gam nt (DS.one l) w0 fp T H a w) : a.defers = l := by
  obtain ⟨rs, e1, e2, _⟩ := g.df
  rw [e1, e2 rfl]; rfl

theorem argsGam {nt : Nat} {args : List AV} {H : HH} {w : World} (ha : args.length ≤ nt) (hw : HoldsH H w) : Gam nt (DS.one []) w H (argsT args 0) H { tmps := (denL args).toArray ++ Array.replicate (nt - (denL args).toArray.size) undef, defers := [] } w := by
  refine ⟨fun t v hv => ?_, ?_, ⟨[], rfl, fun _ => rfl, List.nodup_nil, fun r hr => by simp at hr⟩, HeapOk.enter hw⟩
  · obtain ⟨_, h2⟩ := argsT_get args 0 t v hv
    simp only [Nat.sub_zero] at h2
    have h3 := denL_get h2
    have hlt : t < (denL args).length := by
      rcases Nat.lt_or_ge t (denL args).length with h | h
      · exact h
      · rw [List.getElem?_eq_none h] at h3; cases h3
    simp only []
    rw [Array.getD_eq_getD_getElem?, Array.getElem?_append, if_pos (by simpa using hlt)]
    simp [h3]
  · simp; omega

/-- The closure, entered as a deferred call. -/
theorem recover_calls (ht : TabOk P tab) (hb : TblOk P tbl) (hmix : P.follows .mixedOrders = true) (inv : Inv) {f : FuncId} {fn : Func} {args : List AV} {v : AV} {H : HH} {K : HH → Prop} {w : World} {u : FrameMode}
    (hf : P.funcs[f]? = some fn) (hc : fn.body = some (body fn)) (hw : HoldsH H w) (h : recoverK tab tbl inv fn args v H K)
    (hu : (u = .returning ∧ v = .v .nilIface) ∨ u = .panicking [{ v := v.den, recovered := false }]) :
    CallsDIn (FW none) 0 P f (denL args).toArray u w fun e u' w' => ∃ x H', e = .returned x ∧ settle u' = .returning ∧ K H' ∧ Ext H H' w w' := by
  unfold recoverK at h
  split at h
  rotate_left
  · exact h.elim
  rename_i id ops rest hbody
  split at h
  rotate_left
  · exact h.elim
  rename_i d c ty1 pos1 af1 d2 d3 ty2 pos2 af2 hops
  have g_ := ck_spec h
  clear h
  obtain ⟨hck, h⟩ := g_
  simp only [Bool.and_eq_true] at hck
  obtain ⟨⟨⟨⟨⟨⟨⟨⟨h1, h2⟩, h3⟩, h4⟩, h5⟩, h6⟩, h6'⟩, h7⟩, h8⟩ := hck
  have hcal : c.callee = .builtin .recover := by
    revert h1
    cases c.callee with
    | builtin b => cases b <;> simp
    | _ => simp
  have hargs : c.args = #[] := by apply Array.ext'; simpa using h2
  obtain rfl := Nat.eq_of_beq_eq_true h3
  have h4 : d < fn.ntmps := by simpa [Nat.blt_eq] using h4
  have h5 : d2 < fn.ntmps := by simpa [Nat.blt_eq] using h5
  have h7 := Nat.le_of_ble_eq_true h7
  have hres : fn.results = #[] := by apply Array.ext'; simpa using h8
  have hopsA : ops = #[⟨some d, .call c, ty1, pos1, af1, none⟩, ⟨some d2, .assign (.tmp d), ty2, pos2, af2, none⟩] := by apply Array.ext'; simpa using hops
  refine callsDIn_of_wpSIn hf (hc.trans (congrArg some hbody)) trivial (fun c₀ cs hm => ?_)
  have g0 := argsGam (nt := fn.ntmps) h7 hw
  refine wpSIn_seq (wpSIn_region ?_)
  subst hopsA
  have after : ∀ (u' : FrameMode), settle u' = .returning → ∀ (a1 : Act), a1 = (({ tmps := (denL args).toArray ++ Array.replicate (fn.ntmps - (denL args).toArray.size) undef, defers := [] } : Act).put (some d) v.den) →
      wpOpsSIn (FW none) 0 P #[⟨some d, .call c, ty1, pos1, af1, none⟩, ⟨some d2, .assign (.tmp d), ty2, pos2, af2, none⟩] (Exit.thenS (rest.wpSIn (FW none) 0 P (bodyPostS P fn c₀ cs fun e u' w' => ∃ x H', e = .returned x ∧ settle u' = .returning ∧ K H' ∧ Ext H H' w w')) (bodyPostS P fn c₀ cs fun e u' w' => ∃ x H', e = .returned x ∧ settle u' = .returning ∧ K H' ∧ Ext H H' w w')) [1] a1 ({ c₀ with mode := u' } :: cs) w := by
    intro u' hsu a1 ha1
    have g1 : Gam fn.ntmps (DS.one []) w H ((d, v) :: argsT args 0) H a1 w := by
      subst ha1
      exact ⟨g0.tm.put (d := some d) (fun x e => by cases e; rw [g0.sz]; exact h4) v, by rw [← g0.sz]; simp [Act.put], g0.df, g0.hh⟩
    have g2 : Gam fn.ntmps (DS.one []) w H ((d2, v) :: (d, v) :: argsT args 0) H (a1.put (some d2) v.den) w :=
      ⟨g1.tm.put (d := some d2) (fun x e => by cases e; rw [g1.sz]; exact h5) v, by rw [← g1.sz]; simp [Act.put], g1.df, g1.hh⟩
    have hv : a1.eval (.tmp d) = v.den := g1.tm d v (by simp [TT.get])
    refine opsS_value (fun _ => trivial) rfl rfl (v := v.den) (w' := w) (by simp [execOp, hv]) ?_
    show rest.wpSIn (FW none) 0 P _ _ _ w
    refine wpSIn_of_wpIn rfl (wpIn_mono (exec0_sound ht hb hmix inv h6 h6' g2 h) ?_)
    intro e a' w' hq
    have fin : ∀ {T : TT} {H' : HH}, K H' → Gam fn.ntmps (DS.one []) w H T H' a' w' → a'.defers = [] ∧ ∃ u'', ({ c₀ with mode := u' } :: cs : List Frame) = { c₀ with mode := u'' } :: cs ∧ ∃ v, (results fn a'.tmps).run P w' = .ok v w' ∧ ∃ x H', Ending.returned v = .returned x ∧ settle u'' = .returning ∧ K H' ∧ Ext H H' w w' := by
      intro T H' hk g'
      refine ⟨g'.defers, u', rfl, .tuple #[], ?_, .tuple #[], H', rfl, hsu, hk, g'.hh.toExt⟩
      simp [results, hres]
    cases e with
    | normal => obtain ⟨T, H', hk, g'⟩ := hq; exact fin hk g'
    | ret => obtain ⟨T, H', hk, g'⟩ := hq; exact fin hk g'
    | exit i => obtain ⟨T, H', hk, _⟩ := hq; exact hk.elim
    | goto l => exact hq.elim
    | panic ch => obtain ⟨_, T, H', _, hk, _⟩ := hq; exact hk.elim
    | outgrown => exact hq.elim
  -- the recover
  have hrec : ∀ ρ, (execOp ρ ⟨some d, .call c, ty1, pos1, af1, none⟩).run P w = .ok .recover w := fun ρ => by
    simp [execOp, resolve, hcal, hargs, invoke, builtin]
  have hl : List.range (#[⟨some d, .call c, ty1, pos1, af1, none⟩, ⟨some d2, .assign (.tmp d), ty2, pos2, af2, none⟩] : Array Oper).size = [0, 1] := rfl
  rw [hl]
  rcases hu with ⟨rfl, rfl⟩ | rfl
  · refine opsS_rec_none (fun _ => trivial) rfl rfl (hrec _) (by simp [recoverD, hm]) ?_
    have := after .returning rfl _ rfl
    have e0 : ({ c₀ with mode := .returning } : Frame) = c₀ := by rw [← hm]
    rw [e0] at this
    exact this
  · refine opsS_rec_some (fun _ => trivial) rfl rfl (hrec _) (v := v.den) (cs' := { c₀ with mode := .panicking [{ v := v.den, recovered := true }] } :: cs) (by simp [recoverD, hm]) ?_
    exact after _ rfl _ rfl

/-- A function whose second step defers a closure: what its call does. -/
def guardH (tab : Tab) (tbl : Tbl) (inv : Inv) (fn fc : Func) (g : FuncId) : Handler := fun _ args H K => guardK tab tbl inv fn fc g args H K

theorem guard_ok (ht : TabOk P tab) (hb : TblOk P tbl) (hmix : P.follows .mixedOrders = true) (inv : Inv) {f g : FuncId} {fn fc : Func}
    (hf : P.funcs[f]? = some fn) (hc : fn.body = some (body fn)) (hname : (fn.name == "runtime.NumGoroutine") = false) (hg : P.funcs[g]? = some fc) (hgc : fc.body = some (body fc)) (hgname : (fc.name == "runtime.NumGoroutine") = false) :
    HOk P f (guardH tab tbl inv fn fc g) := by
  refine ⟨enters_of hf hc hname, fun rs hrs args H K w hw h => ?_⟩
  unfold guardH guardK at h
  split at h
  rotate_left
  · exact h.elim
  rename_i r0 id ops rest hbody
  split at h
  rotate_left
  · exact h.elim
  rename_i d g' first cap ty1 pos1 af1 c ty2 pos2 af2 hops
  have g_ := ck_spec h
  clear h
  obtain ⟨hck, h⟩ := g_
  simp only [Bool.and_eq_true] at hck
  obtain ⟨⟨⟨⟨⟨⟨⟨⟨h1, h2⟩, h3⟩, h4⟩, h5⟩, h6⟩, h7⟩, h8⟩, h9⟩ := hck
  obtain rfl := Nat.eq_of_beq_eq_true h1
  have hcal : c.callee = .value (.tmp d) := by
    revert h2
    cases c.callee with
    | value x =>
      cases x with
      | tmp d' => intro h; rw [Nat.eq_of_beq_eq_true h]
      | _ => simp
    | _ => simp
  have hargs : c.args = #[] := by apply Array.ext'; simpa using h3
  have h4 : d < fn.ntmps := by simpa [Nat.blt_eq] using h4
  have h9 := Nat.le_of_ble_eq_true h9
  have hopsA : ops = #[⟨some d, .makeFunc (.func g) first cap, ty1, pos1, af1, none⟩, ⟨none, .defer c, ty2, pos2, af2, none⟩] := by apply Array.ext'; simpa using hops
  subst hopsA
  have g0 := argsGam (nt := fn.ntmps) h9 hw
  refine (callsIn_wide (n := 0)).1 (callsIn_of_wp_marks hf (hc.trans (congrArg some hbody)) trivial ?_)
  refine wpIn_seq (wpIn_mono (exec0_sound ht hb hmix inv h5 h7 g0 h) ?_)
  intro e a1 w1 hq
  cases e with
  | exit i => obtain ⟨T, H', hk, _⟩ := hq; exact hk.elim
  | ret => obtain ⟨T, H', hk, _⟩ := hq; exact hk.elim
  | goto l => exact hq.elim
  | panic ch => obtain ⟨_, T, H', _, hk, _⟩ := hq; exact hk.elim
  | outgrown => exact hq.elim
  | normal =>
  obtain ⟨T, H1, h, g1⟩ := hq
  obtain ⟨av, hav, h⟩ := evalL_sound g1.tm h
  obtain ⟨bv, hbv, h⟩ := evalL_sound g1.tm h
  refine wpIn_seq (wpIn_region ?_)
  have hl : List.range (#[⟨some d, .makeFunc (.func g) first cap, ty1, pos1, af1, none⟩, ⟨none, .defer c, ty2, pos2, af2, none⟩] : Array Oper).size = [0, 1] := rfl
  rw [hl]
  have ea : first.map a1.eval = (denL av).toArray := by apply Array.ext'; rw [Array.toList_map, hav]
  have eb : cap.map a1.eval = (denL bv).toArray := by apply Array.ext'; rw [Array.toList_map, hbv]
  have hr1 : (execOp a1.eval ⟨some d, .makeFunc (.func g) first cap, ty1, pos1, af1, none⟩).run P w1 = .ok (.value (AV.fn (.func g) av bv).den) w1 := by
    simp [execOp, AV.den, ea, eb, Instr.makeFunc]
  have g2 : Gam fn.ntmps (DS.one []) w H ((d, .fn (.func g) av bv) :: T) H1 (a1.put (some d) (AV.fn (.func g) av bv).den) w1 :=
    ⟨g1.tm.put (d := some d) (fun x e => by cases e; rw [g1.sz]; exact h4) _, by rw [← g1.sz]; simp [Act.put], g1.df, g1.hh⟩
  refine ops_value (o := ⟨some d, .makeFunc (.func g) first cap, ty1, pos1, af1, none⟩) (fun _ => trivial) rfl rfl (fun c e => by cases e) hr1 ?_
  have hd : (a1.put (some d) (AV.fn (.func g) av bv).den).eval (.tmp d) = (AV.fn (.func g) av bv).den := g2.tm d _ (by simp [TT.get])
  have hd' : (a1.put (some d) (Value.func (.func g) (denL av).toArray (denL bv).toArray)).eval (.tmp d) = Value.func (.func g) (denL av).toArray (denL bv).toArray := hd
  have ea0 : ∀ ρ : Operand → Value, c.args.map ρ = #[] := fun ρ => by rw [hargs]; simp
  refine ops_defer (o := ⟨none, .defer c, ty2, pos2, af2, none⟩) (fun _ => trivial) rfl rfl rfl (d := { target := .fn (.func g) (denL bv).toArray, args := (denL av).toArray }) (w' := w1) ?_ ?_
  · simp only [execOp, resolve, hcal, AV.den, hd', Deferred.ofValue, Sem.run_bind, Sem.run_pure, Result.andThen_ok, ea0]
    simp
  have g3 : Gam fn.ntmps (DS.one [{ target := .fn (.func g) (denL bv).toArray, args := (denL av).toArray }]) w H ((d, .fn (.func g) av bv) :: T) H1 { (a1.put (some d) (AV.fn (.func g) av bv).den) with defers := [{ target := .fn (.func g) (denL bv).toArray, args := (denL av).toArray }] } w1 := by
    refine ⟨g2.tm, g2.sz, ⟨[], rfl, fun _ => rfl, List.nodup_nil, fun r hr => by simp at hr⟩, g2.hh⟩
  have hdef : (a1.put (some d) (AV.fn (.func g) av bv).den).defers = [] := g2.defers
  have eact : ({ (a1.put (some d) (AV.fn (.func g) av bv).den) with defers := { target := .fn (.func g) (denL bv).toArray, args := (denL av).toArray } :: (a1.put (some d) (AV.fn (.func g) av bv).den).defers } : Act).put none undef = { (a1.put (some d) (AV.fn (.func g) av bv).den) with defers := [{ target := .fn (.func g) (denL bv).toArray, args := (denL av).toArray }] } := by
    rw [hdef]; rfl
  rw [show (⟨none, .defer c, ty2, pos2, af2, none⟩ : Oper).dst = none from rfl, show (⟨some d, .makeFunc (.func g) first cap, ty1, pos1, af1, none⟩ : Oper).dst = some d from rfl, eact]
  show rest.wpIn (FW none) 0 P (bodyPostM (FW none) 0 P fn (OutOk K H w)) _ w1
  refine wpIn_mono (exec0_sound ht hb hmix inv h6 h8 g3 h) ?_
  intro e a2 w2 hq
  have hent : ∀ w', (invoke (.fn (.func g) (denL bv).toArray) (denL av).toArray).run P w' = .ok (.enter g (denL (av ++ bv)).toArray) w' := fun w' => by
    simp only [invoke]
    have := enters_of hg hgc hgname ((denL av).toArray ++ (denL bv).toArray) w'
    simpa [denL_append] using this
  have fin : ∀ {T : TT} {H2 : HH} {v : AV} {u : FrameMode}, u ≠ .run → ((u = .returning ∧ v = .v .nilIface) ∨ u = .panicking [{ v := v.den, recovered := false }]) →
      (recoverK tab tbl inv fc (av ++ bv) v H2 fun H => resK tab T H fn.results.toList fun vs => K (.ret (resV vs)) H) → Gam fn.ntmps (DS.one [{ target := .fn (.func g) (denL bv).toArray, args := (denL av).toArray }]) w H T H2 a2 w2 →
      LeavesInM (FW none) 0 P fn a2.tmps (OutOk K H w) a2.defers u w2 := by
    intro T H2 v u hu hu2 hk g'
    rw [g'.defers]
    refine ⟨hu, .inr ⟨FW_depth none, .func g, (denL bv).toArray, g, (denL (av ++ bv)).toArray, rfl, hent w2, fun _ _ => trivial, ?_⟩⟩
    refine (recover_calls ht hb hmix inv hg hgc g'.hh.hp hk hu2).mono ?_
    rintro e' u' w' ⟨x, H3, rfl, hsu, hk3, hx⟩
    show LeavesInM (FW none) 0 P fn a2.tmps (OutOk K H w) [] (settle u') w'
    rw [hsu]
    have hh3 := g'.hh.ext hx
    obtain ⟨y, hy, hr⟩ := results_run ht g'.tm hh3.hp (K := fun v => K (.ret v) H3) hk3
    exact ⟨y.den, hr, y, H3, rfl, hy, hh3.toExt⟩
  cases e with
  | normal => obtain ⟨T2, H2, hk, g'⟩ := hq; exact fin (by simp) (.inl ⟨rfl, rfl⟩) hk g'
  | ret => obtain ⟨T2, H2, hk, g'⟩ := hq; exact fin (by simp) (.inl ⟨rfl, rfl⟩) hk g'
  | exit i => obtain ⟨T2, H2, hk, _⟩ := hq; exact hk.elim
  | goto l => exact hq.elim
  | panic ch =>
    obtain ⟨v, T2, H2, rfl, hk, g'⟩ := hq
    exact fin (by simp) (.inr rfl) hk g'
  | outgrown => exact hq.elim
end
end Go.Eng
