import Derived.Test.YthnkafambegbcaaEngY
set_option linter.unusedSimpArgs false
namespace Go.Eng
open Go Go.Sp
def FW (ro : Option Nat) : Fence := { Fence.wide with round := ro }
theorem FW_none : FW none = Fence.wide := rfl
theorem FW_in (ro : Option Nat) (l : Nat) : (FW ro).inRound l = FW (some l) := rfl
theorem FW_room (ro : Option Nat) (n : Nat) : (FW ro).room n := fun _ h => by simp [FW, Fence.wide] at h
theorem FW_fn (ro : Option Nat) (f : FuncId) : (FW ro).fn f := trivial
theorem FW_depth (ro : Option Nat) : (FW ro).depth.isSome = true → 1 ≤ 0 := fun h => by simp [FW, Fence.wide] at h
theorem FW_fenced (ro : Option Nat) (P : Program) : Machine.fenced P (FW ro) = Machine.fenced P Fence.wide := rfl
theorem callsIn_FW {ro : Option Nat} {n : Nat} {P : Program} {f : FuncId} {args : Array Value} {w : World} {R : Ending → World → Prop} (h : Calls P f args w R) : CallsIn (FW ro) n P f args w R :=
  ⟨trivial, fun cs _ => (callsIn_wide (n := n).2 h).2 cs (room_wide _)⟩
theorem roundIn_FW {ro : Option Nat} {n : Nat} {P : Program} {l f : Nat} {tmps : Array Value} {asg bdy : Code} {w : World} {R : Ending → World → Prop} (h : RoundIn Fence.wide 0 P l f tmps asg bdy w R) : RoundIn (FW ro) n P l f tmps asg bdy w R :=
  ⟨trivial, fun c cs _ => h.2 c cs (room_wide _)⟩
def notDefer (o : Oper) : Bool := match o.op with | .defer _ => false | _ => true
theorem notDefer_spec {o : Oper} (h : notDefer o = true) : ∀ c, o.op ≠ .defer c := fun c e => by simp [notDefer, e] at h
theorem OpRes.wpIn {P : Program} {o : Oper} {a : Act} {w : World} {next : Act → World → Prop} {Q : Exit → Act → World → Prop} (ro : Option Nat) (hnd : ∀ c, o.op ≠ .defer c) (h : OpRes P o a w next) : o.wpIn (FW ro) 0 P a w next Q := by
  refine ⟨fun _ _ => trivial, ?_⟩
  rw [Oper.semAt_eq _ _ _ hnd]
  rcases h with ⟨v, w', h, hn⟩ | ⟨w', h, hn⟩
  · rw [h]; exact hn
  · rw [h]; exact hn
def outK (K KP : AV → HH → Prop) : HK := fun o H =>
  match o with
  | .ret v => K v H
  | .pan v => KP v H
def opX (tab : Tab) (tbl : Tbl) (rs : RS) (T : TT) (H : HH) (o : Op) (K KP : AV → HH → Prop) : Prop :=
  match o with
  | .call c =>
    match c.callee with
    | .value f => evalK T f fun fv =>
      match fv with
      | .fn (.func g) first cap => evalL T c.args.toList fun as =>
        match tbl.get g with
        | some (.pure F) => (match F (first ++ as ++ cap) with | some v => K v H | none => False)
        | some (.pre F) => (match F (first ++ as ++ cap) with | some (c, v) => c ∧ K v H | none => False)
        | some (.gen h) => h rs (first ++ as ++ cap) H (outK K KP)
        | some (.ext h) => h (first ++ as ++ cap) H K
        | some (.dt _ _) => False
        | none => False
      | .yl id n => evalL T c.args.toList fun as =>
        match nth H id with
        | some ⟨m, .loopc lvl .ready _ T' nt ps asg bdy, true⟩ => n = m ∧
          (match nth rs (rs.length - 1 - lvl) with
           | some re => re T' nt ps asg bdy as id n H (outK K KP)
           | none => False)
        | _ => False
      | _ => False
    | .builtin .append =>
      (match dtOf tab tbl c.argTypes.toList with
       | some (.dt _ d) => evalL T c.args.toList fun vs => appendD tab H d c.argTypes.toList vs K
       | _ =>
       match tbl.get 4294967294 with
       | some _ => evalL T c.args.toList fun vs =>
         match canList H vs with
         | true => appendL tab H c.argTypes.toList vs K
         | false => opK tab T H o K
       | none =>
       match tbl.get 4294967295 with
       | some _ => evalL T c.args.toList fun vs =>
         match canMerge H vs with
         | true => appendM tab H c.argTypes.toList vs K
         | false => opK tab T H o K
       | none => opK tab T H o K)
    | _ => opK tab T H o K
  | .panic x => evalK T x fun v => match v with | .ifc _ _ => KP v H | _ => False
  | o => opK tab T H o K
def quiet (tbl : Tbl) (T : TT) (o : Op) : Bool :=
  match o with
  | .call c =>
    match c.callee with
    | .value f =>
      match evalO T f with
      | some (.fn (.func g) _ _) => (match tbl.get g with | some (.pure _) => true | some (.pre _) => true | _ => false)
      | _ => false
    | _ => false
  | o => quietK o
theorem RsOk.get {P : Program} : ∀ {rs : RS} {i : Nat} {re : REx}, RsOk P rs → nth rs i = some re → ReOk P re
  | [], _, _, _, h => by simp [nth] at h
  | _ :: _, 0, _, ⟨h1, _⟩, h => by cases h; exact h1
  | _ :: _, i + 1, _, ⟨_, h2⟩, h => RsOk.get h2 (i := i) h
theorem Frm.toExt {H : HH} {w w' : World} (hh : HoldsH H w) (f : Frm [] w w') : Ext H H w w' := ((HeapOk.enter hh).pure f).toExt
theorem dtOf_ok {P : Program} {tab : Tab} {tbl : Tbl} (hb : TblOk P tbl) {at_ : List TypeId} {α : Type} {d : DT α} (h : dtOf tab tbl at_ = some (.dt α d)) : d.Ok := by
  unfold dtOf at h
  split at h
  · split at h
    · exact hb.get h
    · cases h
  · cases h
theorem opX_sound {P : Program} {tab : Tab} {tbl : Tbl} {rs : RS} (ht : TabOk P tab) (hb : TblOk P tbl) (hrs : RsOk P rs) {ro : Option Nat} {T : TT} {H : HH} {a : Act} {w : World} {o : Oper} {K KP : AV → HH → Prop}
    (hnd : ∀ c, o.op ≠ .defer c) (hm : Matches T a.tmps) (hh : HoldsH H w) {next : Act → World → Prop} {Q : Exit → Act → World → Prop} (h : opX tab tbl rs T H o.op K KP)
    (hk : ∀ v H' w', K v H' → Ext H H' w w' → (quiet tbl T o.op = true → Frm [] w w') → next (a.put o.dst v.den) w')
    (hp : ∀ v H' w', KP v H' → Ext H H' w w' → Q (.panic [{ v := v.den, recovered := false }]) a w') : o.wpIn (FW ro) 0 P a w next Q := by
  have plain : quiet tbl T o.op = quietK o.op ∨ quiet tbl T o.op = false → opK tab T H o.op K → o.wpIn (FW ro) 0 P a w next Q := by
    intro hq h
    refine Oper.wpIn_mono (fun a' w' hx => ?_) ((opK_sound ht hm (HeapOk.enter hh) h).wpIn ro hnd)
    obtain ⟨v, H', hv, hx, rfl, hqt⟩ := hx
    refine hk v H' w' hv hx.toExt (fun e => ?_)
    rcases hq with hq | hq
    · exact hqt (hq ▸ e)
    · rw [hq] at e; cases e
  unfold opX at h
  split at h
  · rename_i c ho
    split at h
    · rename_i f hf
      unfold evalK at h
      split at h
      rotate_left
      · exact h.elim
      rename_i fv hfe
      have hfv := evalO_sound hm hfe
      split at h
      · rename_i g first cap
        obtain ⟨as, has, h⟩ := evalL_sound hm h
        have e : c.args.map a.eval = (denL as).toArray := by apply Array.ext'; rw [Array.toList_map, has]
        have hrun : Enters P g → (execOp a.eval o).run P w = .ok (.enter g (denL (first ++ as ++ cap)).toArray) w := by
          intro hen
          simp only [execOp, ho, resolve, hf, hfv, AV.den, Deferred.ofValue, Sem.run_bind, Sem.run_pure, Result.andThen_ok, invoke, e]
          rw [hen]
          simp [denL_append]
        split at h
        · rename_i F hg
          have hok : POk P g F := hb.get hg
          split at h
          · rename_i v hv
            refine ⟨fun _ _ => trivial, ?_⟩
            rw [Oper.semAt_eq _ _ _ hnd, hrun hok.enters]
            refine ⟨FW_depth ro, callsIn_FW ((hok.calls _ v w hv).mono fun e w' hq => ?_)⟩
            obtain ⟨rfl, hx⟩ := hq
            exact hk v H w' h (hx.toExt hh) fun _ => hx
          · exact h.elim
        · rename_i F hg
          have hok : PrOk P g F := hb.get hg
          split at h
          · rename_i c v hv
            refine ⟨fun _ _ => trivial, ?_⟩
            rw [Oper.semAt_eq _ _ _ hnd, hrun hok.enters]
            refine ⟨FW_depth ro, callsIn_FW ((hok.calls _ (c, v) w hv h.1).mono fun e w' hq => ?_)⟩
            obtain ⟨rfl, hx⟩ := hq
            exact hk v H w' h.2 (hx.toExt hh) fun _ => hx
          · exact h.elim
        · rename_i hd hg
          have hok : HOk P g hd := hb.get hg
          refine ⟨fun _ _ => trivial, ?_⟩
          rw [Oper.semAt_eq _ _ _ hnd, hrun hok.enters]
          refine ⟨FW_depth ro, callsIn_FW ((hok.calls rs hrs _ H _ w hh h).mono fun e w' hq => ?_)⟩
          cases e with
          | returned x =>
            obtain ⟨v, H', rfl, hv, hx⟩ := hq
            refine hk v H' w' hv hx (fun hqt => ?_)
            have hfe' : evalO T f = some (.fn (.func g) first cap) := hfe
            simp only [quiet, ho, hf, hfe', hg] at hqt
            cases hqt
          | panicked ch =>
            obtain ⟨v, H', rfl, hv, hx⟩ := hq
            exact hp v H' w' hv hx
          | outgrown => exact hq.elim
        · rename_i hd hg
          have hok : XOk P g hd := hb.get hg
          obtain ⟨v, H', w', hr, hv, hx⟩ := hok.calls _ H K w hh h
          refine ⟨fun _ _ => trivial, ?_⟩
          have hrun' : (execOp a.eval o).run P w = .ok (.value v.den) w' := by
            simp only [execOp, ho, resolve, hf, hfv, AV.den, Deferred.ofValue, Sem.run_bind, Sem.run_pure, Result.andThen_ok, invoke, e]
            have e2 : (denL first).toArray ++ (denL as).toArray ++ (denL cap).toArray = (denL (first ++ as ++ cap)).toArray := by simp [denL_append]
            rw [e2]
            exact hr
          rw [Oper.semAt_eq _ _ _ hnd, hrun']
          refine hk v H' w' hv hx (fun hqt => ?_)
          have hfe' : evalO T f = some (.fn (.func g) first cap) := hfe
          simp only [quiet, ho, hf, hfe', hg] at hqt
          cases hqt
        · exact h.elim
        · exact h.elim
      · rename_i id n
        obtain ⟨as, has, h⟩ := evalL_sound hm h
        have e : c.args.map a.eval = (denL as).toArray := by apply Array.ext'; rw [Array.toList_map, has]
        split at h
        · rename_i m lvl pend T' nt ps asg bdy hbk
          obtain ⟨rfl, h⟩ := h
          split at h
          · rename_i re hre
            have hreok := hrs.get hre
            have hhold := hh.all id _ (by rw [← nth_eq]; exact hbk)
            obtain ⟨r, hr, hl⟩ := hhold
            obtain ⟨hsz, hround⟩ := hreok T' nt ps asg bdy as id n H _ w lvl pend hh hbk h r hr hl
            refine ⟨fun _ _ => trivial, ?_⟩
            have hrun : (execOp a.eval o).run P w = .ok (.round n r.fn ((r.params.zip (denL as).toArray).foldl (fun tmps (t, a) => tmps.setIfInBounds t a) r.tmps) r.assign r.body) w := by
              have hg : (Instr.getLoop n).run P w = .ok r w := by simp [Instr.getLoop, getObj, Sem.run, hr]
              have hs2 : ¬ ((denL as).toArray.size ≠ r.params.size) := by simp [hsz]
              simp only [execOp, ho, resolve, hf, hfv, AV.den, Deferred.ofValue, Sem.run_bind, Sem.run_pure, Result.andThen_ok, invoke, e, Instr.yield, hg]
              have e0 : (#[] : Array Value) ++ (denL as).toArray = (denL as).toArray := by simp
              rw [e0, if_neg hs2]
              simp [Sem.run_bind, Sem.run_pure]
            rw [Oper.semAt_eq _ _ _ hnd, hrun]
            refine ⟨FW_depth ro, roundIn_FW (hround.mono fun e w' hq => ?_)⟩
            cases e with
            | returned x =>
              obtain ⟨v, H', rfl, hv, hx⟩ := hq
              refine hk v H' w' hv hx (fun hqt => ?_)
              have hfe' : evalO T f = some (.yl id n) := hfe
              simp only [quiet, ho, hf, hfe'] at hqt
              cases hqt
            | panicked ch =>
              obtain ⟨v, H', rfl, hv, hx⟩ := hq
              exact hp v H' w' hv hx
            | outgrown => exact hq.elim
          · exact h.elim
        · exact h.elim
      · exact h.elim
    · rename_i hcb
      have hquiet : quiet tbl T o.op = false := by rw [ho]; simp only [quiet, hcb]
      split at h
      · rename_i α d hdt
        obtain ⟨vs, hvs, h⟩ := evalL_sound hm h
        obtain ⟨v, H', w', hv, hh', hr⟩ := appendD_sound ht (HeapOk.enter hh) (dtOf_ok hb hdt) h o.type
        have e : c.args.map a.eval = (denL vs).toArray := by apply Array.ext'; rw [Array.toList_map, hvs]
        refine ⟨fun _ _ => trivial, ?_⟩
        have hrun : (execOp a.eval o).run P w = .ok (.value v.den) w' := by
          simp only [execOp, ho, resolve, hcb, Sem.run_bind, Sem.run_pure, Result.andThen_ok, invoke, e, builtin, hr]
        rw [Oper.semAt_eq _ _ _ hnd, hrun]
        exact hk v H' w' hv hh'.toExt (fun hqt => by rw [hquiet] at hqt; cases hqt)
      rename_i hnodt
      clear hnodt
      split at h
      · obtain ⟨vs, hvs, h⟩ := evalL_sound hm h
        split at h
        · obtain ⟨v, H', w', hv, hh', hr⟩ := appendL_sound ht (HeapOk.enter hh) h o.type
          have e : c.args.map a.eval = (denL vs).toArray := by apply Array.ext'; rw [Array.toList_map, hvs]
          refine ⟨fun _ _ => trivial, ?_⟩
          have hrun : (execOp a.eval o).run P w = .ok (.value v.den) w' := by
            simp only [execOp, ho, resolve, hcb, Sem.run_bind, Sem.run_pure, Result.andThen_ok, invoke, e, builtin, hr]
          rw [Oper.semAt_eq _ _ _ hnd, hrun]
          exact hk v H' w' hv hh'.toExt (fun hqt => by rw [hquiet] at hqt; cases hqt)
        · exact plain (.inr hquiet) h
      split at h
      · obtain ⟨vs, hvs, h⟩ := evalL_sound hm h
        split at h
        · obtain ⟨v, H', w', hv, hh', hr⟩ := appendM_sound ht (HeapOk.enter hh) h o.type
          have e : c.args.map a.eval = (denL vs).toArray := by apply Array.ext'; rw [Array.toList_map, hvs]
          refine ⟨fun _ _ => trivial, ?_⟩
          have hrun : (execOp a.eval o).run P w = .ok (.value v.den) w' := by
            simp only [execOp, ho, resolve, hcb, Sem.run_bind, Sem.run_pure, Result.andThen_ok, invoke, e, builtin, hr]
          rw [Oper.semAt_eq _ _ _ hnd, hrun]
          exact hk v H' w' hv hh'.toExt (fun hqt => by rw [hquiet] at hqt; cases hqt)
        · exact plain (.inr hquiet) h
      · exact plain (.inr hquiet) h
    · rename_i hnv hnb
      refine plain (.inr ?_) h
      rw [ho]
      simp only [quiet]
  · rename_i x ho
    obtain ⟨v, hv, h⟩ := evalK_sound hm h
    split at h
    · rename_i t y
      refine ⟨fun _ _ => trivial, ?_⟩
      have hrun : (execOp a.eval o).run P w = .halt (.panic (AV.ifc t y).den) w := by
        simp [execOp, ho, hv, AV.den, Instr.panic, goPanic, Sem.run]
      rw [Oper.semAt_eq _ _ _ hnd, hrun]
      exact hp _ H w h (HeapOk.enter hh).toExt
    · exact h.elim
  · rename_i h1 h2
    refine plain (.inl ?_) h
    unfold quiet
    split
    · rename_i c hc; exact absurd hc (h1 c)
    · rfl
end Go.Eng
