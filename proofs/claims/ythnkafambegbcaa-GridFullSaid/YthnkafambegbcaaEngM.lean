import Derived.Test.YthnkafambegbcaaEngH
import Derived.Maps.RangeRun
set_option linter.unusedSimpArgs false
namespace Go.Eng
open Go Go.Sp
def keyEq : TD → AV → AV → Option Bool
  | .int _, .v (.int k a), .v (.int k' b) => (match sameK k k' with | true => some (a == b) | false => none)
  | .str, .v (.string a), .v (.string b) => some (eqS a b)
  | .bool, .v (.bool a), .v (.bool b) => some (a == b)
  | _, _, _ => none
def findK (d : TD) (k : AV) : List (AV × AV × Nat) → Nat → (Option (Nat × AV) → Prop) → Prop
  | [], _, K => K none
  | e :: es, i, K =>
    match keyEq d k e.1 with
    | some b => br b (K (some (i, e.2.1))) (findK d k es (i + 1) K)
    | none => False
def keyTD : TD → Bool
  | .int _ | .str | .bool => true
  | _ => false
theorem keyEq_sound {P : Program} {key : Nat} {d : TD} (hd : DescOk P key d) {k x : AV} {b : Bool} (h : keyEq d k x = some b) :
    ∃ desc, P.underlying key = some desc ∧ Instr.sameNow desc k.den x.den = some b := by
  unfold keyEq at h
  split at h
  · split at h
    · rename_i hk
      obtain rfl := sameK_eq hk
      cases h
      exact ⟨_, hd, by simp [AV.den, Instr.sameNow]⟩
    · cases h
  · cases h
    rename_i a b
    refine ⟨_, hd, ?_⟩
    simp only [AV.den, Instr.sameNow, Option.some.injEq]
    rw [beq_toListBytes, eqS_eq]
  · cases h
    exact ⟨_, hd, by simp [AV.den, Instr.sameNow]⟩
  · cases h
theorem findK_sound {P : Program} {key : Nat} {d : TD} (hd : DescOk P key d) {desc : TypeDesc} (hu : P.underlying key = some desc) {k : AV} : ∀ {es : List (AV × AV × Nat)} {i : Nat} {K : Option (Nat × AV) → Prop}, findK d k es i K →
    ∃ r, K r ∧ Instr.findNow desc k.den (mapEs es).toList i = some (r.map fun p => (p.1, p.2.den)) ∧ ∀ p, r = some p → i ≤ p.1 ∧ ∃ e, es[p.1 - i]? = some e ∧ keyEq d k e.1 = some true
  | [], i, K, h => ⟨none, h, rfl, fun p hp => by cases hp⟩
  | e :: es, i, K, h => by
    simp only [findK] at h
    split at h
    · rename_i b hb
      obtain ⟨desc', hu', hs⟩ := keyEq_sound hd hb
      rw [hu] at hu'
      cases hu'
      cases b
      · obtain ⟨r, hr, hf, hp⟩ := findK_sound hd hu h
        refine ⟨r, hr, ?_, fun p hr => ?_⟩
        · simp only [mapEs, List.map_cons, Instr.findNow, hs]
          exact hf
        · obtain ⟨h1, e', h2, h3⟩ := hp p hr
          refine ⟨by omega, e', ?_, h3⟩
          rw [show p.1 - i = (p.1 - (i + 1)) + 1 by omega, List.getElem?_cons_succ]
          exact h2
      · refine ⟨_, h, ?_, fun p hp => ?_⟩
        · simp only [mapEs, List.map_cons, Instr.findNow, hs]
          rfl
        · cases hp
          exact ⟨Nat.le_refl _, e, by simp, hb⟩
    · exact h.elim
theorem run_checkKey' {P : Program} {key : Nat} {d : TD} (hd : DescOk P key d) (hk : keyTD d = true) (b : Bool) (v : AV) (w : World) : (Instr.checkKey b 10000 key v.den).run P w = .ok () w := by
  have e : ∀ n, (Instr.checkKey b (n + 1) key v.den).run P w = .ok () w := fun n => by
    cases d with
    | int k => simp only [DescOk] at hd; simp [Instr.checkKey, run_underlying hd]
    | str => simp only [DescOk] at hd; simp [Instr.checkKey, run_underlying hd]
    | bool => simp only [DescOk] at hd; simp [Instr.checkKey, run_underlying hd]
    | _ => simp [keyTD] at hk
  exact e 9999
theorem run_findKey' {P : Program} {key : Nat} {d : TD} (hd : DescOk P key d) (hk : keyTD d = true) {k : AV} {es : List (AV × AV × Nat)} {K : Option (Nat × AV) → Prop} (h : findK d k es 0 K) :
    ∃ r, K r ∧ (∀ w, (Instr.findKey key k.den (mapEs es).toList).run P w = .ok (r.map fun p => (p.1, p.2.den)) w) ∧ ∀ p, r = some p → ∃ e, es[p.1]? = some e ∧ keyEq d k e.1 = some true := by
  have hu : ∃ desc, P.underlying key = some desc := by
    cases d with
    | int k => exact ⟨_, hd⟩
    | str => exact ⟨_, hd⟩
    | bool => exact ⟨_, hd⟩
    | _ => simp [keyTD] at hk
  obtain ⟨desc, hu⟩ := hu
  obtain ⟨r, hr, hf, hp⟩ := findK_sound hd hu h
  refine ⟨r, hr, fun w => ?_, fun p hr => by obtain ⟨_, e, h1, h2⟩ := hp p hr; exact ⟨e, by simpa using h1, h2⟩⟩
  simp only [Instr.findKey, Sem.run_bind, run_underlying hu, Result.andThen_ok, hf, Sem.run_pure]
def lookupK (tab : Tab) (H : HH) (t : TypeId) (x k : AV) (ok : Bool) (K : AV → Prop) : Prop :=
  match tab.get t with
  | some ⟨_, _, _, .map key e, _⟩ =>
    (match tab.get key, tab.get e with
     | some ki, some ei => ck (keyTD ki.d) <|
       (match x with
        | .mp id n =>
          (match nth H id with
           | some ⟨m, .mapc es _, _⟩ => n = m ∧ findK ki.d k es 0 fun r => outK ei.zero ok r K
           | _ => False)
        | .v (.map none) => outK ei.zero ok none K
        | _ => False)
     | _, _ => False)
  | _ => False
where
  outK (z : AV) (ok : Bool) (r : Option (Nat × AV)) (K : AV → Prop) : Prop :=
    match r, ok with
    | some p, true => K (.tup [p.2, .v (.bool true)])
    | some p, false => K p.2
    | none, true => K (.tup [z, .v (.bool false)])
    | none, false => K z
theorem lookupK_sound {P : Program} {tab : Tab} (ht : TabOk P tab) {H : HH} {w : World} (hh : HoldsH H w) {t : TypeId} {x k : AV} {ok : Bool} {K : AV → Prop} (h : lookupK tab H t x k ok K) :
    ∃ v, K v ∧ (Instr.lookup t x.den k.den ok).run P w = .ok v.den w := by
  unfold lookupK at h
  split at h
  · rename_i key e _ htt
    have hd := (ht.get htt).desc
    simp only [DescOk] at hd
    split at h
    · rename_i ki ei hki hei
      have g_ := ck_spec h
      clear h
      obtain ⟨hkt, h⟩ := g_
      have hkd := (ht.get hki).desc
      have hz := (ht.get hei).run_zero w
      split at h
      · rename_i id n
        split at h
        · rename_i m es clock own hb
          obtain ⟨rfl, h⟩ := h
          rw [nth_eq] at hb
          have hc := hh.all id _ hb
          simp only [Cont.holds] at hc
          obtain ⟨r, hr, hf, _⟩ := run_findKey' hkd hkt h
          have hg : (getObj n).run P w = .ok (.map (mapEs es) clock) w := by simp [getObj, Sem.run, hc]
          cases r with
          | none => cases ok <;> exact ⟨_, hr, by simp [Instr.lookup, AV.den, denL, run_underlying hd, hg, run_checkKey' hkd hkt, hf, hz]⟩
          | some p => cases ok <;> exact ⟨_, hr, by simp [Instr.lookup, AV.den, denL, run_underlying hd, hg, run_checkKey' hkd hkt, hf]⟩
        · exact h.elim
      · have hf : (Instr.findKey key k.den []).run P w = .ok none w := by
          obtain ⟨r, hr, hf, _⟩ := run_findKey' (es := []) (k := k) (K := fun r => r = none) hkd hkt (by simp [findK])
          subst hr
          exact hf w
        cases ok <;> exact ⟨_, h, by simp [Instr.lookup, AV.den, denL, run_underlying hd, run_checkKey' hkd hkt, hf, hz]⟩
      · exact h.elim
    · exact h.elim
  · exact h.elim
def setVal : List (AV × AV × Nat) → Nat → AV → AV → List (AV × AV × Nat)
  | [], _, _, _ => []
  | e :: es, 0, k, v => (k, v, e.2.2) :: es
  | e :: es, i + 1, k, v => e :: setVal es i k v
theorem setVal_den : ∀ (es : List (AV × AV × Nat)) (i : Nat) (k v : AV), (mapEs es).modify i (fun e => { e with key := k.den, val := v.den }) = mapEs (setVal es i k v) := by
  intro es i k v
  apply Array.ext'
  simp only [Array.toList_modify, mapEs]
  induction es generalizing i with
  | nil => simp [setVal]
  | cons e es ih =>
    cases i with
    | zero => simp [setVal, List.modify]
    | succ i =>
      simp only [List.map_cons, setVal, List.modify_succ_cons]
      rw [ih i]
def updateK (tab : Tab) (H : HH) (t : TypeId) (x k v : AV) (K : HH → Prop) : Prop :=
  match tab.get t with
  | some ⟨_, _, _, .map key _, _⟩ =>
    (match tab.get key with
     | some ki => ck (keyTD ki.d) <|
       (match x with
        | .mp id n =>
          (match nth H id with
           | some ⟨m, .mapc es clock, own⟩ => ck own <| n = m ∧ findK ki.d k es 0 fun r =>
             match r with
             | some p => K (H.set id ⟨m, .mapc (setVal es p.1 k v) clock, own⟩)
             | none => K (H.set id ⟨m, .mapc (es ++ [(k, v, clock)]) (clock + 1), own⟩)
           | _ => False)
        | _ => False)
     | none => False)
  | _ => False
theorem keyEq_bits {d : TD} {k x : AV} (h : keyEq d k x = some true) (n : Nat) : Instr.sameBits n x.den k.den = true := by
  unfold keyEq at h
  split at h
  · split at h
    · rename_i hk
      obtain rfl := sameK_eq hk
      simp only [Option.some.injEq, beq_iff_eq] at h
      subst h
      cases n <;> simp [AV.den, Instr.sameBits]
    · cases h
  · rename_i a b
    simp only [Option.some.injEq] at h
    have : (b == a) = true := by
      rw [beq_toListBytes, eqS_eq]
      simp only [eqS, beq_iff_eq] at h ⊢
      exact h.symm
    cases n <;> simpa [AV.den, Instr.sameBits] using this
  · simp only [Option.some.injEq, beq_iff_eq] at h
    subst h
    cases n <;> simp [AV.den, Instr.sameBits]
  · cases h
theorem updateK_sound {P : Program} {tab : Tab} (ht : TabOk P tab) {w0 : World} {fp H : HH} {w : World} (hh : HeapOk w0 fp H w) {t : TypeId} {x k v : AV} {K : HH → Prop} (h : updateK tab H t x k v K) :
    ∃ H' w', K H' ∧ HeapOk w0 fp H' w' ∧ (Instr.mapUpdate t x.den k.den v.den).run P w = .ok () w' := by
  unfold updateK at h
  split at h
  · rename_i key e _ htt
    have hd := (ht.get htt).desc
    simp only [DescOk] at hd
    split at h
    · rename_i ki hki
      have g_ := ck_spec h
      clear h
      obtain ⟨hkt, h⟩ := g_
      have hkd := (ht.get hki).desc
      split at h
      · rename_i id n
        split at h
        · rename_i m es clock own hb
          have g_ := ck_spec h
          clear h
          obtain ⟨rfl, rfl, h⟩ := g_
          rw [nth_eq] at hb
          have hc := hh.hp.all id _ hb
          simp only [Cont.holds] at hc
          obtain ⟨r, hr, hf, hp⟩ := run_findKey' hkd hkt h
          have hg : (getObj n).run P w = .ok (.map (mapEs es) clock) w := by simp [getObj, Sem.run, hc]
          have hset : ∀ o, (setObj n o).run P w = .ok () { w with heap := w.heap.setIfInBounds n o } := fun o => by simp [setObj, Sem.run, hc]
          have hlt := lt_of_some hc
          have turn : ∀ (es' : List (AV × AV × Nat)) (c' : Nat), HeapOk w0 fp (H.set id ⟨n, .mapc es' c', true⟩) { w with heap := w.heap.setIfInBounds n (.map (mapEs es') c') } := fun es' c' => by
            refine hh.turn hb rfl _ ?_ rfl rfl rfl (by simp) (fun q hq => ?_)
            · simp only [Cont.holds]
              simp [hlt]
            · have : n ≠ q := fun e => hq e.symm
              simp [Array.getElem?_setIfInBounds, this]
          cases r with
          | none =>
            refine ⟨_, _, hr, turn _ _, ?_⟩
            have e1 : (mapEs es).push { key := k.den, val := v.den, born := clock } = mapEs (es ++ [(k, v, clock)]) := by simp [mapEs]
            simp [Instr.mapUpdate, AV.den, run_underlying hd, hg, run_checkKey' hkd hkt, hf, hset, e1]
          | some p =>
            obtain ⟨e', he', hke⟩ := hp p rfl
            refine ⟨_, _, hr, turn _ _, ?_⟩
            have e1 := setVal_den es p.1 k v
            have e2 : ((mapEs es)[p.1]?.map (·.key)).getD k.den = e'.1.den := by simp [mapEs, he']
            have e3 : (Instr.keyThatStays e'.1.den k.den).run P w = .ok k.den w := by simp [Instr.keyThatStays, keyEq_bits hke]
            simp only [Instr.mapUpdate, AV.den, Sem.run_bind, run_underlying hd, Result.andThen_ok, hg, run_checkKey' hkd hkt, hf, Option.map_some, e2, e3, e1, hset]
        · exact h.elim
      · exact h.elim
    · exact h.elim
  · exact h.elim
theorem map_eraseIdx {α β : Type} (f : α → β) : ∀ (l : List α) (i : Nat), (l.map f).eraseIdx i = (l.eraseIdx i).map f
  | [], i => by simp
  | a :: l, 0 => by simp
  | a :: l, i + 1 => by simp [map_eraseIdx f l i]
def deleteK (tab : Tab) (H : HH) (t : TypeId) (x k : AV) (K : HH → Prop) : Prop :=
  match tab.get t with
  | some ⟨_, _, _, .map key _, _⟩ =>
    (match tab.get key with
     | some ki => ck (keyTD ki.d) <|
       (match x with
        | .mp id n =>
          (match nth H id with
           | some ⟨m, .mapc es clock, own⟩ => ck own <| n = m ∧ findK ki.d k es 0 fun r =>
             match r with
             | some p => K (H.set id ⟨m, .mapc (es.eraseIdx p.1) clock, own⟩)
             | none => K (H.set id ⟨m, .mapc es clock, own⟩)
           | _ => False)
        | .v (.map none) => K H
        | _ => False)
     | none => False)
  | _ => False
theorem deleteK_sound {P : Program} {tab : Tab} (ht : TabOk P tab) {w0 : World} {fp H : HH} {w : World} (hh : HeapOk w0 fp H w) {t : TypeId} {at_ : Array TypeId} (hat : at_[0]? = some t) {x k : AV} {K : HH → Prop} (h : deleteK tab H t x k K) (ty : TypeId) :
    ∃ H' w', K H' ∧ HeapOk w0 fp H' w' ∧ (Builtin.delete_ at_ ty #[x.den, k.den]).run P w = .ok (.tuple #[]) w' := by
  unfold deleteK at h
  split at h
  · rename_i key e _ htt
    have hd := (ht.get htt).desc
    simp only [DescOk] at hd
    split at h
    · rename_i ki hki
      have g_ := ck_spec h
      clear h
      obtain ⟨hkt, h⟩ := g_
      have hkd := (ht.get hki).desc
      split at h
      · rename_i id n
        split at h
        · rename_i m es clock own hb
          have g_ := ck_spec h
          clear h
          obtain ⟨rfl, rfl, h⟩ := g_
          rw [nth_eq] at hb
          have hc := hh.hp.all id _ hb
          simp only [Cont.holds] at hc
          obtain ⟨r, hr, hf, hp⟩ := run_findKey' hkd hkt h
          have hg : (getObj n).run P w = .ok (.map (mapEs es) clock) w := by simp [getObj, Sem.run, hc]
          have hset : ∀ o, (setObj n o).run P w = .ok () { w with heap := w.heap.setIfInBounds n o } := fun o => by simp [setObj, Sem.run, hc]
          have hlt := lt_of_some hc
          have turn : ∀ (es' : List (AV × AV × Nat)) (c' : Nat), HeapOk w0 fp (H.set id ⟨n, .mapc es' c', true⟩) { w with heap := w.heap.setIfInBounds n (.map (mapEs es') c') } := fun es' c' => by
            refine hh.turn hb rfl _ ?_ rfl rfl rfl (by simp) (fun q hq => ?_)
            · simp only [Cont.holds]
              simp [hlt]
            · have : n ≠ q := fun e => hq e.symm
              simp [Array.getElem?_setIfInBounds, this]
          cases r with
          | none =>
            refine ⟨_, _, hr, turn _ _, ?_⟩
            simp [Builtin.delete_, hat, AV.den, run_underlying hd, hg, run_checkKey' hkd hkt, hf, hset]
          | some p =>
            refine ⟨_, _, hr, turn _ _, ?_⟩
            have e1 : (mapEs es).eraseIdxIfInBounds p.1 = mapEs (es.eraseIdx p.1) := by
              apply Array.ext'
              simp only [mapEs, List.size_toArray, Array.toList_eraseIdxIfInBounds]
              exact map_eraseIdx _ _ _
            simp [Builtin.delete_, hat, AV.den, run_underlying hd, hg, run_checkKey' hkd hkt, hf, hset, e1]
        · exact h.elim
      · exact ⟨_, w, h, hh, by simp [Builtin.delete_, hat, AV.den, run_underlying hd, run_checkKey' hkd hkt]⟩
      · exact h.elim
    · exact h.elim
  · exact h.elim
def allE : List (AV × AV × Nat) → (AV × AV × Nat → Prop) → Prop
  | [], _ => True
  | [e], f => f e
  | e :: es, f => f e ∧ allE es f
theorem allE_iff : ∀ {es : List (AV × AV × Nat)} {f : AV × AV × Nat → Prop}, allE es f ↔ ∀ e ∈ es, f e
  | [], f => by simp [allE]
  | [e], f => by simp [allE]
  | e :: d :: es, f => by
    simp only [allE, List.mem_cons]
    rw [allE_iff (es := d :: es)]
    constructor
    · rintro ⟨h1, h2⟩ x (rfl | hx)
      · exact h1
      · exact h2 x (by simpa using hx)
    · intro h
      exact ⟨h e (.inl rfl), fun x hx => h x (.inr (by simpa using hx))⟩
def leftE (es : List (AV × AV × Nat)) (seen : List Nat) : List (AV × AV × Nat) := es.filter fun e => !seen.contains e.2.2
def nextK (H : HH) (it : AV) (K : AV → HH → Prop) : Prop :=
  match it with
  | .ptr id n 0 =>
    (match nth H id with
     | some ⟨m, .iterc mid mn since seen last, own⟩ =>
       (match nth H mid with
        | some ⟨mm, .mapc es clock, _⟩ => ck (own && Nat.ble since last && es.all fun e => Nat.blt e.2.2 since) <| n = m ∧ mn = mm ∧
          br (leftE es seen).isEmpty (K (.tup [.v (.bool false)]) H)
            (allE (leftE es seen) fun e => K (.tup [.v (.bool true), e.1, e.2.1]) (H.set id ⟨m, .iterc mid mn since (seen ++ [e.2.2]) clock, own⟩))
        | _ => False)
     | _ => False)
  | _ => False
def entryK (H : HH) (it : AV) (K : AV → Prop) : Prop :=
  match it with
  | .ptr id n 0 =>
    (match nth H id with
     | some ⟨m, .iterc mid mn _ seen last, _⟩ =>
       (match nth H mid, seen.getLast? with
        | some ⟨mm, .mapc es clock, _⟩, some st =>
          (match es.find? fun e => Nat.beq e.2.2 st with
           | some e => ck (Nat.beq clock last) <| n = m ∧ mn = mm ∧ K (.tup [e.1, e.2.1])
           | none => False)
        | _, _ => False)
     | _ => False)
  | _ => False
theorem find_den (st : Nat) : ∀ es : List (AV × AV × Nat), (mapEs es).find? (·.born == st) = (es.find? fun e => Nat.beq e.2.2 st).map fun e => { key := e.1.den, val := e.2.1.den, born := e.2.2 }
  | [] => rfl
  | e :: es => by
    have ih := find_den st es
    simp only [mapEs, List.map_cons, ← Array.find?_toList] at ih ⊢
    simp only [List.find?_cons]
    have : (e.2.2 == st) = Nat.beq e.2.2 st := by rw [Bool.eq_iff_iff]; simp [Nat.beq_eq]
    rw [this]
    cases Nat.beq e.2.2 st with
    | true => rfl
    | false => exact ih
theorem entryK_sound {P : Program} {H : HH} {w : World} (hh : HoldsH H w) {it : AV} {K : AV → Prop} (h : entryK H it K) :
    ∃ v, K v ∧ (Instr.entry it.den).run P w = .ok v.den w := by
  unfold entryK at h
  split at h
  · rename_i id n
    split at h
    · rename_i m mid mn since seen last own hb
      split at h
      · rename_i mm es clock ownm st hbm hst
        split at h
        · rename_i e he
          have g_ := ck_spec h
          clear h
          obtain ⟨hck, rfl, rfl, h⟩ := g_
          obtain rfl := Nat.eq_of_beq_eq_true hck
          rw [nth_eq] at hb hbm
          have hc := hh.all id _ hb
          have hcm := hh.all mid _ hbm
          simp only [Cont.holds] at hc hcm
          refine ⟨_, h, ?_⟩
          have hbk : seen.toArray.back? = some st := by simp [hst]
          have hf := find_den st es
          rw [he] at hf
          simp [Instr.entry, AV.den, denL, getObj, Sem.run, hc, hcm, hbk, hf]
        · exact h.elim
      · exact h.elim
    · exact h.elim
  · exact h.elim
theorem leftE_den (es : List (AV × AV × Nat)) (seen : List Nat) : leftOf (mapEs es) seen.toArray = mapEs (leftE es seen) := by
  apply Array.ext'
  simp only [leftOf, mapEs, leftE, Array.toList_filter, List.filter_map]
  congr 1
  apply List.filter_congr
  intro e _
  simp [Function.comp]
theorem nextK_sound {P : Program} {w0 : World} {fp H : HH} {w : World} (hh : HeapOk w0 fp H w) {it : AV} {K : AV → HH → Prop} (h : nextK H it K) (ty : TypeId) :
    ∃ v H' w', K v H' ∧ HeapOk w0 fp H' w' ∧ (Instr.next it.den false ty).run P w = .ok v.den w' := by
  unfold nextK at h
  split at h
  · rename_i id n
    split at h
    · rename_i m mid mn since seen last own hb
      split at h
      · rename_i mm es clock ownm hbm
        have g_ := ck_spec h
        clear h
        obtain ⟨hck, rfl, rfl, h⟩ := g_
        simp only [Bool.and_eq_true] at hck
        obtain ⟨⟨rfl, hsl⟩, hall⟩ := hck
        have hsl := Nat.le_of_ble_eq_true hsl
        rw [nth_eq] at hb hbm
        have hc := hh.hp.all id _ hb
        have hcm := hh.hp.all mid _ hbm
        simp only [Cont.holds] at hc hcm
        have hold : ∀ x ∈ (mapEs es).toList, x.born < since := by
          intro x hx
          simp only [mapEs, List.mem_map] at hx
          obtain ⟨e, he, rfl⟩ := hx
          have := List.all_eq_true.1 hall e he
          simpa [Nat.blt_eq] using this
        rcases run_next_at (P := P) w ty n mn since last seen.toArray (mapEs es) clock hc hcm hold hsl with ⟨h0, hr⟩ | ⟨e, he, w1, hw1, hr⟩
        · rw [leftE_den] at h0
          have : leftE es seen = [] := List.eq_nil_of_length_eq_zero (by simpa [mapEs] using h0)
          rw [this] at h
          exact ⟨_, H, w, h, hh, by simpa [AV.den, denL] using hr⟩
        · rw [leftE_den] at he
          simp only [mapEs, List.mem_map] at he
          obtain ⟨e', he', rfl⟩ := he
          have hne : (leftE es seen).isEmpty = false := by
            cases hl : leftE es seen with
            | nil => rw [hl] at he'; cases he'
            | cons a l => rfl
          rw [hne, br_false, allE_iff] at h
          have hk := h e' he'
          have hh1 : HeapOk w0 fp H w1 := by
            rcases hw1 with rfl | rfl
            · exact hh
            · exact hh.same { heap := rfl, os := rfl, tape := rfl, output := rfl }
          have hc1 : w1.heap[n]? = some (.mapIter (some mn) since seen.toArray last) := by rcases hw1 with rfl | rfl <;> exact hc
          have hlt : n < w1.heap.size := lt_of_some hc1
          refine ⟨_, _, _, hk, ?_, by simpa [AV.den, denL] using hr⟩
          refine hh1.turn hb rfl _ ?_ rfl rfl rfl (by simp [Go.ChangeMaps.setBlock]) (fun q hq => ?_)
          · simp only [Cont.holds, Go.ChangeMaps.setBlock]
            simp [hlt]
          · have : n ≠ q := fun e => hq e.symm
            simp [Go.ChangeMaps.setBlock, Array.getElem?_setIfInBounds, this]
      · exact h.elim
    · exact h.elim
  · exact h.elim
end Go.Eng
