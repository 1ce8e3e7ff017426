import Derived.Test.YthnkafambegbcaaEngU
set_option linter.unusedSimpArgs false
namespace Go.Eng
open Go Go.Sp
def opK (tab : Tab) (T : TT) (H : HH) (o : Op) (K : AV → HH → Prop) : Prop :=
  match o with
  | .pick c a b => evalK T c fun cv =>
    match cv with
    | .v (.bool t) => br t (evalK T a fun v => K v H) (evalK T b fun v => K v H)
    | _ => False
  | .alloc e =>
    match tab.get e with
    | some i => ∀ n, K (.ptr H.length n 0) (H ++ [⟨n, newC tab H i.zero.cells e, true⟩])
    | none => False
  | .box e x => evalK T x fun v => ck (v.cells.all AV.one) <| ∀ n, K (.ptr H.length n 0) (H ++ [⟨n, newC tab H v.cells e, true⟩])
  | .load t p => evalK T p fun pv => loadK tab H t pv fun v => K v H
  | .store t p x => evalK T p fun pv => evalK T x fun xv => storeK tab H t pv xv fun H' => K (.v undef) H'
  | .convert s d x => evalK T x fun p =>
    match tab.get d with
    | some ⟨_, _, _, .slice e, _⟩ =>
      (match tab.get s, tab.get e, p with
       | some ⟨_, _, _, .str, _⟩, some ⟨_, _, _, .int .u8, _⟩, .v (.string t) =>
         ∀ n cap, t.size ≤ cap → K (.sl H.length n 0 1 t.size cap) (H ++ [⟨n, .rows cap [.ints .u8 (byteAt t)] e, true⟩])
       | _, _, _ => False)
    | some ⟨_, _, _, .str, _⟩ =>
      (match p with
       | .sl id n r sz len _ => readK tab H s id n r sz len fun t => K (.v (.string t)) H
       | .os id _ n o r sz len _ => readO tab H s id n o r sz len fun t => K (.v (.string t)) H
       | _ => pureK tab T (.convert s d x) fun v => K v H)
    | some di =>
      (match tab.get s with
       | some si => (match isU si.d di.d with
         | true => uconvK tab H si di p (K p H)
         | false => pureK tab T (.convert s d x) fun v => K v H)
       | none => False)
    | none => False
  | .makeMap t r =>
    match tab.get t, r with
    | some ⟨_, _, _, .map _ _, _⟩, none => ∀ n, K (.mp H.length n) (H ++ [⟨n, .mapc [] 0, true⟩])
    | _, _ => False
  | .lookup t x k ok => evalK T x fun xv => evalK T k fun kv => lookupP tab H t xv kv ok fun v => K v H
  | .mapUpdate t m k x => evalK T m fun mv => evalK T k fun kv => evalK T x fun xv => updateP tab H t mv kv xv fun H' => K (.v undef) H'
  | .range t x => evalK T x fun xv =>
    match tab.get t, xv with
    | some ⟨_, _, _, .map _ _, _⟩, .mp id n =>
      (match nth H id with
       | some ⟨m, .mapc _ clock, _⟩ => n = m ∧ ∀ r, K (.ptr H.length r 0) (H ++ [⟨r, .iterc id n clock [] clock, true⟩])
       | some ⟨m, .mape _ _ _ _ _ clock, _⟩ => n = m ∧ ∀ r, K (.ptr H.length r 0) (H ++ [⟨r, .itere id n clock [], true⟩])
       | _ => False)
    | some ⟨_, _, _, .str, _⟩, .v (.string s) => ∀ r, K (.ptr H.length r 0) (H ++ [⟨r, .iters s 0, true⟩])
    | _, _ => False
  | .next it s => evalK T it fun iv =>
    match s with
    | false => nextP H iv K
    | true => nextS H iv K
  | .entry it => evalK T it fun iv => entryP H iv fun v => K v H
  | .makeSlice t l c => evalK T l fun lv => evalK T c fun cv =>
    match tab.get t, lv, cv with
    | some ⟨_, _, _, .slice e, _⟩, .v (.int _ a), .v (.int _ b) =>
      (match tab.get e with
       | some ei => (0 ≤ a ∧ a ≤ b ∧ b ≤ 9223372036854775807 ∧ (ei.bytes : Int) * b ≤ 281474976710656) ∧
         ∀ n, K (.sl H.length n 0 ei.sz a.toNat b.toNat) (H ++ [⟨n, .rows b.toNat (zcols ei.zero.cells) e, true⟩])
       | none => False)
    | _, _, _ => False
  | .buildSlice t len parts => evalL T (parts.toList.map (·.2)) fun vs =>
    match tab.get t with
    | some ⟨_, _, _, .slice e, _⟩ =>
      (match tab.get e with
       | some ei => match Nat.beq len 0 && parts.toList.isEmpty with
        | true => ∀ n, K (.sl H.length n 0 ei.sz 0 0) (H ++ [⟨n, .rows 0 (zcols ei.zero.cells) e, true⟩])
        | false => ck (Nat.ble (len * ei.sz) 16777216 && !Nat.beq (len * ei.sz) 0) <|
         fillK ei.sz (newCells ei.zero.cells len) ((parts.toList.map (·.1)).zip vs) fun z => ∀ n, K (.sl H.length n 0 ei.sz len len) (H ++ [⟨n, .cells z e, true⟩])
       | none => False)
    | _ => False
  | .call c =>
    match c.callee with
    | .builtin .append => evalL T c.args.toList fun vs => match isBuf tab H c.argTypes.toList vs with
      | true => appendBK tab H c.argTypes.toList vs K
      | false => appendK tab H c.argTypes.toList vs K
    | .builtin .unsafeString => evalL T c.args.toList fun vs => uStrK tab H c.argTypes.toList vs fun v => K v H
    | .builtin .unsafeSliceData => evalL T c.args.toList fun vs => uDataK H vs fun v => K v H
    | .builtin .copy => evalL T c.args.toList fun vs => copyK tab c.argTypes.toList vs fun v => K v H
    | .builtin .delete => evalL T c.args.toList fun vs =>
      match c.argTypes.toList, vs with
      | t :: _, [m, k] => deleteP tab H t m k fun H' => K (.v undef) H'
      | _, _ => False
    | .builtin .len => evalL T c.args.toList fun vs =>
      match c.argTypes.toList, vs with
      | [t], [.mp id n] =>
        (match tab.get t, nth H id with
         | some ⟨_, _, _, .map _ _, _⟩, some ⟨m, .mapc es _, _⟩ => n = m ∧ K (.v (.int .i64 es.length)) H
         | some ⟨_, _, _, .map _ _, _⟩, some ⟨m, .mape _ _ _ _ es _, _⟩ => n = m ∧ K (.v (.int .i64 es.length)) H
         | _, _ => False)
      | at_, vs => pureB tab .len at_ vs fun v => K v H
    | _ => pureK tab T (.call c) fun v => K v H
  | o => pureK tab T o fun v => K v H
def OpRes (P : Program) (o : Oper) (a : Act) (w : World) (next : Act → World → Prop) : Prop :=
  (∃ v w', (execOp a.eval o).run P w = .ok (.value v) w' ∧ next (a.put o.dst v) w') ∨ (∃ w', (execOp a.eval o).run P w = .ok .skip w' ∧ next (a.put o.dst undef) w')
theorem wp_value {P : Program} {o : Oper} {a : Act} {w w' : World} {v : Value} {next : Act → World → Prop} (h : (execOp a.eval o).run P w = .ok (.value v) w') (hn : next (a.put o.dst v) w') : OpRes P o a w next := .inl ⟨_, _, h, hn⟩
theorem res_skip {P : Program} {o : Oper} {a : Act} {w w' : World} {next : Act → World → Prop} (h : (execOp a.eval o).run P w = .ok .skip w') (hn : next (a.put o.dst undef) w') : OpRes P o a w next := .inr ⟨_, h, hn⟩
def quietK (o : Op) : Bool :=
  match o with
  | .alloc _ | .box .. | .buildSlice .. | .makeSlice .. | .convert .. => true
  | _ => false
theorem frm_alloc (w : World) (o : Obj) : Frm [] w (w.alloc o) := { os := rfl, tape := rfl, output := rfl, size := by simp, block := fun k hk _ => Go.RowKit.Below.heap_alloc _ _ _ hk }
theorem opK_sound {P : Program} {tab : Tab} (ht : TabOk P tab) {T : TT} {H : HH} {a : Act} {w w0 : World} {fp : HH} {o : Oper} {K : AV → HH → Prop}
    (hm : Matches T a.tmps) (hh : HeapOk w0 fp H w) (h : opK tab T H o.op K) : OpRes P o a w (fun a' w' => ∃ v H', K v H' ∧ HeapOk w0 fp H' w' ∧ a' = a.put o.dst v.den ∧ (quietK o.op = true → Frm [] w w')) := by
  have pure_case : ∀ {K' : AV → Prop}, pureK tab T o.op K' → (∀ v, K' v → K v H) → OpRes P o a w (fun a' w' => ∃ v H', K v H' ∧ HeapOk w0 fp H' w' ∧ a' = a.put o.dst v.den ∧ (quietK o.op = true → Frm [] w w')) := by
    intro K' h hk
    obtain ⟨v, hv, hr⟩ := pureK_sound ht hm h
    exact wp_value (hr w) ⟨v, H, hk v hv, hh, rfl, fun _ => Frm.refl _ _⟩
  unfold opK at h
  split at h
  · rename_i c x y ho
    obtain ⟨cv, hc, h⟩ := evalK_sound hm h
    split at h
    · rename_i t
      cases t
      · obtain ⟨v, hv, h⟩ := evalK_sound hm h
        exact wp_value (v := v.den) (w' := w) (by simp [execOp, ho, hc, AV.den, asBool, hv]) ⟨v, H, h, hh, rfl, fun _ => Frm.refl _ _⟩
      · obtain ⟨v, hv, h⟩ := evalK_sound hm h
        exact wp_value (v := v.den) (w' := w) (by simp [execOp, ho, hc, AV.den, asBool, hv]) ⟨v, H, h, hh, rfl, fun _ => Frm.refl _ _⟩
    · exact h.elim
  · rename_i e ho
    split at h
    · rename_i i hi
      have hz := (ht.get hi).run_zero w
      have hzc := AV.cells_den (ht.get hi).zok
      refine wp_value (v := .pointer (some ⟨w.heap.size, 0, none⟩)) (w' := w.alloc (.cells i.zero.den.cells e)) ?_ ⟨_, _, h w.heap.size, hh.alloc _ _ ?_ newC_nums, rfl, fun _ => frm_alloc _ _⟩
      · simp [execOp, ho, Instr.alloc, hz, newVar, newRow]
      · have : (denL i.zero.cells).toArray = i.zero.den.cells := by rw [← hzc]
        refine newC_holds ?_
        simp only [Cont.holds]
        exact Held.plain (by rw [this]; exact alloc_at _ _)
    · exact h.elim
  · rename_i e x ho
    obtain ⟨v, hv, h⟩ := evalK_sound hm h
    have g_ := ck_spec h
    clear h
    obtain ⟨hone, h⟩ := g_
    have hzc := AV.cells_den (one_or_agg hone)
    refine wp_value (v := .pointer (some ⟨w.heap.size, 0, none⟩)) (w' := w.alloc (.cells v.den.cells e)) ?_ ⟨_, _, h w.heap.size, hh.alloc _ _ ?_ newC_nums, rfl, fun _ => frm_alloc _ _⟩
    · simp [execOp, ho, Instr.box, hv, newVar, newRow]
    · have : (denL v.cells).toArray = v.den.cells := by rw [← hzc]
      refine newC_holds ?_
      simp only [Cont.holds]
      exact Held.plain (by rw [this]; exact alloc_at _ _)
  · rename_i t p ho
    obtain ⟨pv, hp, h⟩ := evalK_sound hm h
    obtain ⟨v, hv, hr⟩ := loadK_sound ht hh.hp h
    exact wp_value (v := v.den) (w' := w) (by simp [execOp, ho, hp, hr]) ⟨v, H, hv, hh, rfl, fun _ => Frm.refl _ _⟩
  · rename_i t p x ho
    obtain ⟨pv, hp, h⟩ := evalK_sound hm h
    obtain ⟨xv, hx, h⟩ := evalK_sound hm h
    obtain ⟨H', w', hk, hr, hh'⟩ := storeK_sound ht hh h
    have : (execOp a.eval o).run P w = .ok .skip w' := by simp [execOp, ho, hp, hx, hr]
    exact res_skip this ⟨_, H', hk, hh', rfl, fun hq => by rw [ho] at hq; simp [quietK] at hq⟩
  · rename_i s d x ho
    unfold evalK at h
    split at h
    · rename_i p hpv
      have hp := evalO_sound hm hpv
      split at h
      · rename_i e eq hd
        have hdd := (ht.get hd).desc
        simp only [DescOk] at hdd
        split at h
        · rename_i _ _ t hs he
          have hss := (ht.get hs).desc
          have hee := (ht.get he).desc
          simp only [DescOk] at hss hee
          have hrun := run_bytes_of_string (P := P) w s d e t hss hdd hee
          have hh1 : HeapOk w0 fp H w.drew := hh.same { heap := rfl, os := rfl, tape := rfl, output := rfl }
          have hsz : w.drew.heap.size = w.heap.size := rfl
          refine wp_value (v := .slice (some ⟨w.heap.size, 0, none⟩) t.size (grownCap w t.size 0 e)) (w' := w.drew.alloc (.cells (bytesRow t (grownCap w t.size 0 e)) e ((bytesRow t (grownCap w t.size 0 e)).size, (bytesRow t (grownCap w t.size 0 e)).size + 1))) ?_
            ⟨_, _, h w.heap.size (grownCap w t.size 0 e) (grownCap_ge w _ _ _), hh1.alloc _ _ ?_, by simp [AV.den], fun _ => { os := rfl, tape := rfl, output := rfl, size := by simp, block := fun k hk _ => Go.RowKit.Below.heap_alloc _ _ _ hk }⟩
          · simp only [execOp, ho, hp, AV.den, Sem.run_bind, hrun, Result.andThen_ok, Sem.run_pure]
          · have hsize : (bytesRow t (grownCap w t.size 0 e)).size = grownCap w t.size 0 e := by
              have := grownCap_ge w t.size 0 e
              have e1 : t.data.size = t.size := rfl
              simp [bytesRow, e1]; omega
            refine ⟨(bytesRow t (grownCap w t.size 0 e)).toList, ⟨_, by simpa using alloc_at w.drew _, .inr (by simp)⟩, by simp [hsize], fun i hi j x hj => ?_⟩
            have hj0 : j = 0 ∧ x = .v (.int .u8 (byteAt t i)) := by
              cases j with
              | zero => simp [rowOf, Col.at] at hj; exact ⟨rfl, hj.symm⟩
              | succ j => simp [rowOf] at hj
            obtain ⟨rfl, rfl⟩ := hj0
            simp only [List.length_singleton, Nat.mul_one, Nat.add_zero, Array.getElem?_toList, AV.den, byteAt]
            have e1 : t.data.size = t.size := rfl
            by_cases hlt : i < t.size
            · have hlt' : i < t.data.size := hlt
              simp [bytesRow, Array.getElem?_append, hlt, e1, hlt']
            · have hlt' : ¬ i < t.data.size := hlt
              have h3 : i - t.size < grownCap w t.size 0 e - t.size := by omega
              simp [bytesRow, Array.getElem?_append, hlt, e1, hlt', h3]
        · exact h.elim
      · rename_i eq hd
        have hdd := (ht.get hd).desc
        simp only [DescOk] at hdd
        split at h
        · rename_i id n r sz len cap
          obtain ⟨t, b, hb', hk, hr⟩ := readK_sound (cap := cap) ht hdd h
          rw [nth_eq] at hb'
          have := hr w (hh.hp.all id b hb')
          exact wp_value (v := .string t) (w' := w) (by simp [execOp, ho, hp, this]) ⟨.v (.string t), H, hk, hh, rfl, fun _ => Frm.refl _ _⟩
        · rename_i id a0 n o' r sz len cap
          obtain ⟨t, b, hb', hk, hr⟩ := readO_sound (cap := cap) (a0 := a0) ht hdd h
          rw [nth_eq] at hb'
          have := hr w (hh.hp.all id b hb')
          exact wp_value (v := .string t) (w' := w) (by simp [execOp, ho, hp, this]) ⟨.v (.string t), H, hk, hh, rfl, fun _ => Frm.refl _ _⟩
        · rw [← ho] at h
          exact pure_case h fun v hv => hv
      · rename_i di _ _ hdi
        split at h
        · rename_i si hsi
          split at h
          · obtain ⟨id, b, o', n', hb, rfl, hk, hr⟩ := uconvK_sound ht hsi hdi h
            rw [nth_eq] at hb
            have := hr w (hh.hp.all id b hb)
            exact wp_value (v := (AV.ptr id n' o').den) (w' := w) (by simp [execOp, ho, hp, this]) ⟨_, H, hk, hh, rfl, fun _ => Frm.refl _ _⟩
          · rw [← ho] at h
            exact pure_case h fun v hv => hv
        · exact h.elim
      · exact h.elim
    · exact h.elim
  · rename_i t r ho
    split at h
    · rename_i kt et _ htt
      refine wp_value (v := .map (some w.heap.size)) (w' := w.alloc (.map #[] 0)) (by simp [execOp, ho, Instr.makeMap, newObj, Sem.run]) ⟨_, _, h w.heap.size, hh.alloc _ _ ?_, by simp [AV.den], fun _ => frm_alloc _ _⟩
      simp only [Cont.holds]
      exact alloc_at _ _
    · exact h.elim
  · rename_i t x k ok ho
    obtain ⟨xv, hx, h1⟩ := evalK_sound hm h
    clear h
    obtain ⟨kv, hk, h⟩ := evalK_sound hm h1
    obtain ⟨v, hv, hr⟩ := lookupP_sound ht hh.hp h
    exact wp_value (v := v.den) (w' := w) (by simp [execOp, ho, hx, hk, hr]) ⟨v, H, hv, hh, rfl, fun _ => Frm.refl _ _⟩
  · rename_i t m k x ho
    obtain ⟨mv, hmv, h1⟩ := evalK_sound hm h
    clear h
    obtain ⟨kv, hkv, h2⟩ := evalK_sound hm h1
    clear h1
    obtain ⟨xv, hxv, h⟩ := evalK_sound hm h2
    obtain ⟨H', w', hk, hh', hr⟩ := updateP_sound ht hh h
    have : (execOp a.eval o).run P w = .ok .skip w' := by simp [execOp, ho, hmv, hkv, hxv, hr]
    exact res_skip this ⟨_, H', hk, hh', rfl, fun hq => by rw [ho] at hq; simp [quietK] at hq⟩
  · rename_i t x ho
    obtain ⟨xv, hx, h⟩ := evalK_sound hm h
    split at h
    · rename_i kt et _ id n htt
      have hd := (ht.get htt).desc
      simp only [DescOk] at hd
      split at h
      · rename_i m es clock own hb
        obtain ⟨rfl, h⟩ := h
        rw [nth_eq] at hb
        have hc := hh.hp.all id _ hb
        simp only [Cont.holds] at hc
        refine wp_value (v := .pointer (some ⟨w.heap.size, 0, none⟩)) (w' := w.alloc (.mapIter (some n) clock #[] clock)) ?_ ⟨_, _, h w.heap.size, hh.alloc _ _ ?_, by simp [AV.den], fun _ => frm_alloc _ _⟩
        · simp [execOp, ho, hx, AV.den, Instr.range, run_underlying hd, getObj, Sem.run, hc, newObj]
        · simp only [Cont.holds]
          exact alloc_at _ _
      · rename_i m _ _ _ _ es clock own hb
        obtain ⟨rfl, h⟩ := h
        rw [nth_eq] at hb
        have hc := (hh.hp.all id _ hb).1
        refine wp_value (v := .pointer (some ⟨w.heap.size, 0, none⟩)) (w' := w.alloc (.mapIter (some n) clock #[] clock)) ?_ ⟨_, _, h w.heap.size, hh.alloc _ _ ?_, by simp [AV.den], fun _ => frm_alloc _ _⟩
        · simp [execOp, ho, hx, AV.den, Instr.range, run_underlying hd, getObj, Sem.run, hc, newObj]
        · simp only [Cont.holds]
          exact alloc_at _ _
      · exact h.elim
    · rename_i _ s htt
      have hd := (ht.get htt).desc
      simp only [DescOk] at hd
      refine wp_value (v := .pointer (some ⟨w.heap.size, 0, none⟩)) (w' := w.alloc (.stringIter s 0)) ?_ ⟨_, _, h w.heap.size, hh.alloc _ _ ?_, by simp [AV.den], fun _ => frm_alloc _ _⟩
      · simp [execOp, ho, hx, AV.den, Instr.range, run_underlying hd, newObj, Sem.run]
      · simp only [Cont.holds]
        exact alloc_at _ _
    · exact h.elim
  · rename_i it s ho
    obtain ⟨iv, hi, h⟩ := evalK_sound hm h
    split at h
    · obtain ⟨v, H', w', hk, hh', hr⟩ := nextP_sound (P := P) hh h o.type
      exact wp_value (v := v.den) (w' := w') (by simp [execOp, ho, hi, hr]) ⟨v, H', hk, hh', rfl, fun hq => by rw [ho] at hq; simp [quietK] at hq⟩
    · obtain ⟨v, H', w', hk, hh', hr⟩ := nextS_sound (P := P) hh h o.type
      exact wp_value (v := v.den) (w' := w') (by simp [execOp, ho, hi, hr]) ⟨v, H', hk, hh', rfl, fun hq => by rw [ho] at hq; simp [quietK] at hq⟩
  · rename_i it ho
    obtain ⟨iv, hi, h⟩ := evalK_sound hm h
    obtain ⟨v, hv, hr⟩ := entryP_sound (P := P) hh.hp h
    exact wp_value (v := v.den) (w' := w) (by simp [execOp, ho, hi, hr]) ⟨v, H, hv, hh, rfl, fun _ => Frm.refl _ _⟩
  · rename_i t l c ho
    obtain ⟨lv, hl, h1⟩ := evalK_sound hm h
    clear h
    obtain ⟨cv, hc, h⟩ := evalK_sound hm h1
    clear h1
    split at h
    · rename_i e _ k1 a' k2 b' hs
      split at h
      · rename_i ei hei
        obtain ⟨⟨g1, g2, g3, g4⟩, h⟩ := h
        have hd := (ht.get hs).desc
        simp only [DescOk] at hd
        obtain ⟨x, hx, hxz, hxs, hxb⟩ := (ht.get hei).info'
        have hzl := (ht.get hei).zsz
        have hzc := AV.cells_den (ht.get hei).zok
        have hzc' : ei.zero.den.cells = (denL ei.zero.cells).toArray := by rw [← hzc]
        have hrun := run_make (P := P) w t e x ei.zero.den hd hx hxz k1 k2 a' b' g1 g2 (by rw [hxb]; exact g4) g3
        have hmade : madeCells ei.zero.den.cells (b'.toNat * x.size) = (denL (newCells ei.zero.cells b'.toNat)).toArray := by
          have hcs : ei.zero.den.cells.size = x.size := by rw [hzc', hxs]; simpa using hzl
          rw [← newCells_den, hzl, ← hzc', ← hxs]
          unfold madeCells
          rw [hcs]
        rw [hmade] at hrun
        refine wp_value (v := .slice (some ⟨w.heap.size, 0, none⟩) a'.toNat b'.toNat) (w' := w.alloc (.cells (denL (newCells ei.zero.cells b'.toNat)).toArray e)) ?_ ⟨_, _, h w.heap.size, hh.alloc _ _ ?_, ?_, fun _ => frm_alloc _ _⟩
        · simp only [execOp, ho, hl, hc, AV.den, Sem.run_bind, hrun, Result.andThen_ok, Sem.run_pure]
        · refine ⟨_, Held.plain (alloc_at _ _), by simp, fun i hi j y hy => ?_⟩
          rw [zcols_row] at hy
          rw [zcols_length]
          exact denL_get (newCells_get ei.zero.cells b'.toNat i j hi y hy)
        · simp [AV.den]
      · exact h.elim
    · exact h.elim
  · rename_i t len parts ho
    obtain ⟨vs, hvs, h⟩ := evalL_sound hm h
    split at h
    · rename_i e eq hs
      split at h
      · rename_i ei hei
        split at h
        · rename_i h0
          have hk0 := h
          clear h
          simp only [Bool.and_eq_true] at h0
          obtain ⟨hl0, hp0⟩ := h0
          have hl0 := Nat.eq_of_beq_eq_true hl0
          subst hl0
          have hd := (ht.get hs).desc
          simp only [DescOk] at hd
          obtain ⟨x, hx, hxz, hxs, _⟩ := (ht.get hei).info'
          have hp1 : parts = #[] := by apply Array.ext'; simpa using hp0
          subst hp1
          have hrun : (Instr.buildSlice t 0 #[]).run P w = .ok (.slice (some ⟨w.heap.size, 0, none⟩) 0 0) (w.alloc (.cells #[] e)) := by
            simp [Instr.buildSlice, run_underlying hd, sizeOf, typeInfo, hx, Instr.fill, newRow, newObj, Sem.run]
            have e0 : Array.range 0 = #[] := by apply Array.ext'; simp
            rw [e0, Array.map_empty]
          refine wp_value (v := .slice (some ⟨w.heap.size, 0, none⟩) 0 0) (w' := w.alloc (.cells #[] e)) ?_ ⟨_, _, hk0 w.heap.size, hh.alloc _ _ ?_, ?_, fun _ => frm_alloc _ _⟩
          · simp [execOp, ho, hrun]
          · refine ⟨[], Held.plain (by simpa using alloc_at w _), by simp, fun i hi => by omega⟩
          · simp [AV.den]
        have g_ := ck_spec h
        clear h
        obtain ⟨hle, h⟩ := g_
        simp only [Bool.and_eq_true, Bool.not_eq_true'] at hle
        obtain ⟨hle, hne⟩ := hle
        have hle := Nat.le_of_ble_eq_true hle
        have hne : len * ei.sz ≠ 0 := by intro e'; rw [e'] at hne; cases hne
        have hd := (ht.get hs).desc
        simp only [DescOk] at hd
        obtain ⟨x, hx, hxz, hxs, _⟩ := (ht.get hei).info'
        obtain ⟨l, hl, hfill⟩ := fillK_sound _ _ _ h
        have ep := partsVals parts vs hvs
        have hzl := (ht.get hei).zsz
        have hzc := AV.cells_den (ht.get hei).zok
        have hzc' : ei.zero.den.cells = (denL ei.zero.cells).toArray := by rw [← hzc]
        have hcs : ei.zero.den.cells.size = ei.sz := by rw [hzc']; simpa using hzl
        rw [← newCells_den _ _, hzl, ← hzc', ← hxs] at hfill
        rw [← ep] at hfill
        have hrun := run_buildSlice (P := P) w t e len (parts.map fun (i, x) => (i, a.eval x)) _ x ei.zero.den hd hx hxz (by rw [hxs]; omega) (by rw [hxs]; exact hne) (by rw [hcs]; rw [← hxs]; exact hfill)
        refine wp_value (v := .slice (some ⟨w.heap.size, 0, none⟩) len len) (w' := w.alloc (.cells (denL l).toArray e)) ?_ ⟨_, _, hl w.heap.size, hh.alloc _ _ ?_, ?_, fun _ => frm_alloc _ _⟩
        · simp only [execOp, ho, Sem.run_bind, hrun, Result.andThen_ok, Sem.run_pure]
        · simp only [Cont.holds]
          exact Held.plain (alloc_at _ _)
        · simp [AV.den]
      · exact h.elim
    · exact h.elim
  · rename_i c ho
    split at h
    · rename_i hcb
      obtain ⟨vs, hvs, h⟩ := evalL_sound hm h
      have h : ∃ v H' w', K v H' ∧ HeapOk w0 fp H' w' ∧ (Builtin.append_ c.argTypes o.type (denL vs).toArray).run P w = .ok v.den w' := by
        split at h
        · exact appendBK_sound ht hh h o.type
        · exact appendK_sound ht hh h o.type
      obtain ⟨v, H', w', hk, hh', hr⟩ := h
      have e : c.args.map a.eval = (denL vs).toArray := by apply Array.ext'; rw [Array.toList_map, hvs]
      refine wp_value (v := v.den) (w' := w') ?_ ⟨v, H', hk, hh', rfl, fun hq => ?_⟩
      · simp only [execOp, ho, resolve, hcb, Sem.run_bind, Sem.run_pure, Result.andThen_ok, invoke, e, builtin, hr]
      · rw [ho] at hq
        simp [quietK] at hq
    · rename_i hcb
      obtain ⟨vs, hvs, h⟩ := evalL_sound hm h
      have e : c.args.map a.eval = (denL vs).toArray := by apply Array.ext'; rw [Array.toList_map, hvs]
      obtain ⟨v, w', hk, hh', hr⟩ := uStrK_sound ht hh h o.type
      refine wp_value (v := v.den) (w' := w') ?_ ⟨v, H, hk, hh', rfl, fun hq => ?_⟩
      · simp only [execOp, ho, resolve, hcb, Sem.run_bind, Sem.run_pure, Result.andThen_ok, invoke, e, builtin, hr]
      · rw [ho] at hq
        simp [quietK] at hq
    · rename_i hcb
      obtain ⟨vs, hvs, h⟩ := evalL_sound hm h
      have e : c.args.map a.eval = (denL vs).toArray := by apply Array.ext'; rw [Array.toList_map, hvs]
      obtain ⟨v, hk, hr⟩ := uDataK_sound (P := P) (at_ := c.argTypes) hh.hp h o.type
      exact wp_value (v := v.den) (w' := w) (by simp only [execOp, ho, resolve, hcb, Sem.run_bind, Sem.run_pure, Result.andThen_ok, invoke, e, builtin, hr]) ⟨v, H, hk, hh, rfl, fun _ => Frm.refl _ _⟩
    · rename_i hcb
      obtain ⟨vs, hvs, h⟩ := evalL_sound hm h
      have e : c.args.map a.eval = (denL vs).toArray := by apply Array.ext'; rw [Array.toList_map, hvs]
      obtain ⟨v, hk, hr⟩ := copyK_sound (w := w) ht h o.type
      exact wp_value (v := v.den) (w' := w) (by simp only [execOp, ho, resolve, hcb, Sem.run_bind, Sem.run_pure, Result.andThen_ok, invoke, e, builtin, hr]) ⟨v, H, hk, hh, rfl, fun _ => Frm.refl _ _⟩
    · rename_i hcb
      obtain ⟨vs, hvs, h⟩ := evalL_sound hm h
      have e : c.args.map a.eval = (denL vs).toArray := by apply Array.ext'; rw [Array.toList_map, hvs]
      split at h
      · rename_i t ts m k hat
        have hat' : c.argTypes[0]? = some t := by rw [← Array.getElem?_toList, hat]; rfl
        obtain ⟨H', w', hk, hh', hr⟩ := deleteP_sound (P := P) ht hh hat' h o.type
        refine wp_value (v := .tuple #[]) (w' := w') ?_ ⟨.v undef, H', hk, hh', rfl, fun hq => ?_⟩
        · simp only [execOp, ho, resolve, hcb, Sem.run_bind, Sem.run_pure, Result.andThen_ok, invoke, e, builtin, denL, hr]
        · rw [ho] at hq
          simp [quietK] at hq
      · exact h.elim
    · rename_i hcb
      obtain ⟨vs, hvs, h⟩ := evalL_sound hm h
      have e : c.args.map a.eval = (denL vs).toArray := by apply Array.ext'; rw [Array.toList_map, hvs]
      split at h
      · rename_i t id n hat
        have hat' : c.argTypes[0]? = some t := by rw [← Array.getElem?_toList, hat]; rfl
        split at h
        · rename_i kt et _ m es clock own htt hb
          obtain ⟨rfl, h⟩ := h
          have hd := (ht.get htt).desc
          simp only [DescOk] at hd
          rw [nth_eq] at hb
          have hc := hh.hp.all id _ hb
          simp only [Cont.holds] at hc
          refine wp_value (v := .int .i64 es.length) (w' := w) ?_ ⟨_, H, h, hh, rfl, fun _ => Frm.refl _ _⟩
          simp [execOp, ho, resolve, hcb, invoke, e, builtin, Builtin.len_, hat', denL, AV.den, run_underlying hd, getObj, Sem.run, hc, goInt, mapEs]
        · rename_i kt et _ m _ _ _ _ es clock own htt hb
          obtain ⟨rfl, h⟩ := h
          have hd := (ht.get htt).desc
          simp only [DescOk] at hd
          rw [nth_eq] at hb
          have hc := (hh.hp.all id _ hb).1
          refine wp_value (v := .int .i64 es.length) (w' := w) ?_ ⟨_, H, h, hh, rfl, fun _ => Frm.refl _ _⟩
          simp [execOp, ho, resolve, hcb, invoke, e, builtin, Builtin.len_, hat', denL, AV.den, run_underlying hd, getObj, Sem.run, hc, goInt, mapDs]
        · exact h.elim
      · obtain ⟨v, hv, hr⟩ := pureB_sound (P := P) (b := .len) ht h o.type
        exact wp_value (v := v.den) (w' := w) (by simp only [execOp, ho, resolve, hcb, Sem.run_bind, Sem.run_pure, Result.andThen_ok, invoke, e, hr w _]) ⟨v, H, hv, hh, rfl, fun _ => Frm.refl _ _⟩
    · rw [← ho] at h
      exact pure_case h fun v hv => hv
  · rename_i o' _ _ _ _ _ _ _ _ _ _ _ _ _
    exact pure_case h fun v hv => hv
end Go.Eng
