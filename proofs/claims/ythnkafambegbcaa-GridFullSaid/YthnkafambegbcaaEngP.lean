import Derived.Test.YthnkafambegbcaaEngM
set_option linter.unusedSimpArgs false
set_option linter.unusedVariables false
namespace Go.Eng
open Go Go.Sp
def keyFs (ok : Nat → AV → Bool) (tab : Tab) (l : List AV) : List (Nat × Nat) → Bool
  | [] => true
  | (off, ty) :: fs =>
    match partAV tab ty l off with
    | some x => ok ty x && keyFs ok tab l fs
    | none => false
def keyOk (tab : Tab) : Nat → Nat → AV → Bool
  | 0, _, _ => false
  | n + 1, t, v =>
    match tab.get t with
    | none => false
    | some i =>
      match keyTD i.d with
      | true => true
      | false =>
        match i.d, v with
        | .struct fs, .agg l => i.eqok && keyFs (keyOk tab n) tab l fs
        | _, _ => false
theorem run_forIn_ok {P : Program} {α : Type} (f : α → Sem Unit) (w : World) : ∀ (l : List α), (∀ x ∈ l, (f x).run P w = .ok () w) →
    (forIn l PUnit.unit (fun x _ => do f x; pure (ForInStep.yield PUnit.unit)) : Sem PUnit).run P w = .ok PUnit.unit w
  | [], _ => by simp
  | x :: l, h => by
    simp only [List.forIn_cons, Sem.run_bind, h x (by simp), Result.andThen_ok, Sem.run_pure]
    exact run_forIn_ok f w l (fun y hy => h y (by simp [hy]))
theorem run_checkKey_av {P : Program} {tab : Tab} (ht : TabOk P tab) (b : Bool) (w : World) : ∀ (n t : Nat) (v : AV) (d : Nat), n ≤ d → keyOk tab n t v = true → (Instr.checkKey b d t v.den).run P w = .ok () w := by
  intro n
  induction n with
  | zero => intro t v d _ h; simp [keyOk] at h
  | succ n ih =>
    intro t v d hd h
    obtain ⟨d, rfl⟩ : ∃ m, d = m + 1 := ⟨d - 1, by omega⟩
    simp only [keyOk] at h
    cases hi : tab.get t with
    | none => simp [hi] at h
    | some i =>
      simp only [hi] at h
      have ho := ht.get hi
      have hdesc := ho.desc
      split at h
      · rename_i hk
        cases hdd : i.d with
        | int k => rw [hdd] at hdesc; simp only [DescOk] at hdesc; simp [Instr.checkKey, run_underlying hdesc]
        | str => rw [hdd] at hdesc; simp only [DescOk] at hdesc; simp [Instr.checkKey, run_underlying hdesc]
        | bool => rw [hdd] at hdesc; simp only [DescOk] at hdesc; simp [Instr.checkKey, run_underlying hdesc]
        | _ => rw [hdd] at hk; simp [keyTD] at hk
      · split at h
        · rename_i fs l hdd
          rw [hdd] at hdesc
          simp only [Bool.and_eq_true] at h
          obtain ⟨heq, hfs⟩ := h
          obtain ⟨_, _, hnm⟩ := ho.eq heq
          have hf := hdesc.2.1
          simp only [Instr.checkKey, AV.den, Sem.run_bind, run_underlying hdesc.1, Result.andThen_ok]
          rw [← Array.forIn_toList]
          have key : ∀ F : List Field, keyFs (keyOk tab n) tab l (F.map fun f => (f.offset, f.type)) = true → (F.all fun f => decide (f.name ≠ "_")) = true →
              (forIn F PUnit.unit (fun (f : Field) (_ : PUnit) => (if f.name ≠ "_" then do
                let c ← part f.type (denL l).toArray f.offset
                Instr.checkKey b d f.type c
                pure (ForInStep.yield PUnit.unit)
              else pure (ForInStep.yield PUnit.unit) : Sem (ForInStep PUnit)))).run P w = .ok PUnit.unit w := by
            intro F
            induction F with
            | nil => intro _ _; simp
            | cons f F ihF =>
              intro hfs hnm
              simp only [List.map_cons, keyFs] at hfs
              simp only [List.all_cons, Bool.and_eq_true, decide_eq_true_eq] at hnm
              split at hfs
              · rename_i x hx
                simp only [Bool.and_eq_true] at hfs
                have h1 := run_partAV ht hx w
                have h2 := ih _ x d (by omega) hfs.1
                simp only [List.forIn_cons, hnm.1, ne_eq, not_false_eq_true, if_true, Sem.run_bind, h1, Result.andThen_ok, h2, Sem.run_pure]
                exact ihF hfs.2 hnm.2
              · cases hfs
          have := key (P.fieldsOf t).toList (by rw [hf]; exact hfs) hnm
          simp only [this, Result.andThen_ok, Sem.run_pure]
        · cases h
def eqKey (tab : Tab) (key : Nat) (d : TD) (k x : AV) : Option Bool :=
  match keyTD d with
  | true => keyEq d k x
  | false =>
    match d with
    | .struct _ => eqAV tab 100 key k x
    | _ => none
theorem run_findKey_data {P : Program} {tab : Tab} (ht : TabOk P tab) {key : Nat} {ki : TI} (hk : tab.get key = some ki) {α : Type} {k : AV} {ky vl : α → AV} (es : List (α × Nat))
    (h : ∀ e ∈ es, ∃ c, eqKey tab key ki.d k (ky e.1) = some c) :
    (∃ i e, es[i]? = some e ∧ eqKey tab key ki.d k (ky e.1) = some true ∧ (∀ j < i, ∀ x, es[j]? = some x → eqKey tab key ki.d k (ky x.1) = some false) ∧ ∀ w, (Instr.findKey key k.den (mapDs ky vl es).toList).run P w = .ok (some (i, (vl e.1).den)) w) ∨
    ((∀ e ∈ es, eqKey tab key ki.d k (ky e.1) = some false) ∧ ∀ w, (Instr.findKey key k.den (mapDs ky vl es).toList).run P w = .ok none w) := by
  have hdesc := (ht.get hk).desc
  cases hkt : keyTD ki.d with
  | true =>
    have hu : ∃ desc, P.underlying key = some desc := by
      cases hd : ki.d with
      | int k => rw [hd] at hdesc; exact ⟨_, hdesc⟩
      | str => rw [hd] at hdesc; exact ⟨_, hdesc⟩
      | bool => rw [hd] at hdesc; exact ⟨_, hdesc⟩
      | _ => rw [hd] at hkt; simp [keyTD] at hkt
    obtain ⟨desc, hu⟩ := hu
    have main : ∀ (es : List (α × Nat)) (j : Nat), (∀ e ∈ es, ∃ c, eqKey tab key ki.d k (ky e.1) = some c) →
        (∃ i e, es[i]? = some e ∧ eqKey tab key ki.d k (ky e.1) = some true ∧ (∀ j < i, ∀ x, es[j]? = some x → eqKey tab key ki.d k (ky x.1) = some false) ∧ Instr.findNow desc k.den (mapDs ky vl es).toList j = some (some (j + i, (vl e.1).den))) ∨
        ((∀ e ∈ es, eqKey tab key ki.d k (ky e.1) = some false) ∧ Instr.findNow desc k.den (mapDs ky vl es).toList j = some none) := by
      intro es
      induction es with
      | nil => intro j _; exact .inr ⟨fun e he => by simp at he, rfl⟩
      | cons e es ih =>
        intro j h
        obtain ⟨c, hc⟩ := h e (by simp)
        have hc' := hc
        simp only [eqKey, hkt] at hc'
        obtain ⟨desc', hu', hs⟩ := keyEq_sound hdesc hc'
        rw [hu] at hu'
        cases hu'
        cases c with
        | true =>
          refine .inl ⟨0, e, rfl, hc, fun j hj => by omega, ?_⟩
          simp only [mapDs, List.map_cons, Instr.findNow, hs, Nat.add_zero]
        | false =>
          rcases ih (j + 1) (fun x hx => h x (by simp [hx])) with ⟨i, x, h1, h2, h3, h4⟩ | ⟨h1, h2⟩
          · refine .inl ⟨i + 1, x, by simpa using h1, h2, fun q hq y hy => by
                cases q with
                | zero => simp at hy; subst hy; exact hc
                | succ q => exact h3 q (by omega) y (by simpa using hy), ?_⟩
            simp only [mapDs, List.map_cons, Instr.findNow, hs]
            simp only [mapDs] at h4
            rw [h4]
            congr 3; omega
          · refine .inr ⟨fun x hx => ?_, ?_⟩
            · rcases List.mem_cons.1 hx with rfl | hx
              · exact hc
              · exact h1 x hx
            · simp only [mapDs, List.map_cons, Instr.findNow, hs]
              exact h2
    rcases main es 0 h with ⟨i, e, h1, h2, hf, h3⟩ | ⟨h1, h2⟩
    · refine .inl ⟨i, e, h1, h2, hf, ?_⟩
      rw [Nat.zero_add] at h3
      intro w
      simp only [Instr.findKey, Sem.run_bind, run_underlying hu, Result.andThen_ok, h3, Sem.run_pure]
    · refine .inr ⟨h1, fun w => ?_⟩
      simp only [Instr.findKey, Sem.run_bind, run_underlying hu, Result.andThen_ok, h2, Sem.run_pure]
  | false =>
    cases hd : ki.d with
    | struct fs =>
      rw [hd] at hdesc
      have hu := hdesc.1
      have e0 : ∀ (es : List MapEntry) (w : World), (Instr.findKey key k.den es).run P w = (Instr.findAsking key k.den es).run P w := by
        intro es w
        cases es with
        | nil => simp [Instr.findKey, run_underlying hu, Instr.findNow, Instr.findAsking]
        | cons e es => simp [Instr.findKey, run_underlying hu, Instr.findNow, Instr.sameNow]
      have main : ∀ (es : List (α × Nat)) (j : Nat), (∀ e ∈ es, ∃ c, eqKey tab key ki.d k (ky e.1) = some c) →
          (∃ i e, es[i]? = some e ∧ eqKey tab key ki.d k (ky e.1) = some true ∧ (∀ j < i, ∀ x, es[j]? = some x → eqKey tab key ki.d k (ky x.1) = some false) ∧ ∀ w, (Instr.findAsking key k.den (mapDs ky vl es).toList j).run P w = .ok (some (j + i, (vl e.1).den)) w) ∨
          ((∀ e ∈ es, eqKey tab key ki.d k (ky e.1) = some false) ∧ ∀ w, (Instr.findAsking key k.den (mapDs ky vl es).toList j).run P w = .ok none w) := by
        intro es
        induction es with
        | nil => intro j _; exact .inr ⟨fun e he => by simp at he, by simp [mapDs, Instr.findAsking]⟩
        | cons e es ih =>
          intro j h
          obtain ⟨c, hc⟩ := h e (by simp)
          have hc' := hc
          simp only [eqKey, hkt] at hc'
          rw [hd] at hc'
          have hs : ∀ w, (Op.equal key k.den (ky e.1).den).run P w = .ok c w := fun w => run_eqAV ht w 100 key _ _ c 10000 (by omega) hc'
          cases c with
          | true =>
            refine .inl ⟨0, e, rfl, hc, fun j hj => by omega, fun w => ?_⟩
            simp only [mapDs, List.map_cons, Instr.findAsking, Sem.run_bind, hs, Result.andThen_ok, if_true, Sem.run_pure, Nat.add_zero]
          | false =>
            rcases ih (j + 1) (fun x hx => h x (by simp [hx])) with ⟨i, x, h1, h2, h3, h4⟩ | ⟨h1, h2⟩
            · refine .inl ⟨i + 1, x, by simpa using h1, h2, fun q hq y hy => by
                  cases q with
                  | zero => simp at hy; subst hy; exact hc
                  | succ q => exact h3 q (by omega) y (by simpa using hy), fun w => ?_⟩
              simp only [mapDs, List.map_cons, Instr.findAsking, Sem.run_bind, hs, Result.andThen_ok, Bool.false_eq_true, if_false]
              simp only [mapDs] at h4
              rw [h4 w]
              congr 3; omega
            · refine .inr ⟨fun x hx => ?_, fun w => ?_⟩
              · rcases List.mem_cons.1 hx with rfl | hx
                · exact hc
                · exact h1 x hx
              · simp only [mapDs, List.map_cons, Instr.findAsking, Sem.run_bind, hs, Result.andThen_ok, Bool.false_eq_true, if_false]
                exact h2 w
      rw [← hd]
      rcases main es 0 h with ⟨i, e, h1, h2, hf, h3⟩ | ⟨h1, h2⟩
      · refine .inl ⟨i, e, h1, h2, hf, ?_⟩
        rw [Nat.zero_add] at h3
        intro w; rw [e0]; exact h3 w
      · exact .inr ⟨h1, fun w => by rw [e0]; exact h2 w⟩
    | _ =>
      all_goals
        refine .inr ⟨?_, ?_⟩
        · intro e he
          obtain ⟨c, hc⟩ := h e he
          simp only [eqKey, hkt] at hc
          rw [hd] at hc
          cases hc
        · intro w
          cases es with
          | nil =>
            have hu : ∃ desc, P.underlying key = some desc := by
              cases hu : P.underlying key with
              | some d => exact ⟨d, rfl⟩
              | none => rw [hd] at hdesc; simp [DescOk, hu] at hdesc
            obtain ⟨desc, hu⟩ := hu
            simp [mapDs, Instr.findKey, run_underlying hu, Instr.findNow]
          | cons e es =>
            obtain ⟨c, hc⟩ := h e (by simp)
            simp only [eqKey, hkt] at hc
            rw [hd] at hc
            cases hc
def dataK (q : AV → Option Bool) {α : Type} (ky : α → AV) (es : List (α × Nat)) (Kf : α → Nat → Prop) (Kn : Prop) : Prop :=
  (∀ a b, (a, b) ∈ es → match q (ky a) with | some c => br c (Kf a b) True | none => False) ∧
  ((∀ a b, (a, b) ∈ es → match q (ky a) with | some c => c = false | none => False) → Kn)
theorem dataK_defined {q : AV → Option Bool} {α : Type} {ky : α → AV} {es : List (α × Nat)} {Kf : α → Nat → Prop} {Kn : Prop} (h : dataK q ky es Kf Kn) : ∀ e ∈ es, ∃ c, q (ky e.1) = some c := by
  intro e he
  have := h.1 e.1 e.2 he
  split at this
  · rename_i c hc; exact ⟨c, hc⟩
  · exact this.elim
theorem dataK_found {q : AV → Option Bool} {α : Type} {ky : α → AV} {es : List (α × Nat)} {Kf : α → Nat → Prop} {Kn : Prop} (h : dataK q ky es Kf Kn) {i : Nat} {e : α × Nat} (he : es[i]? = some e) (hq : q (ky e.1) = some true) : Kf e.1 e.2 := by
  have := h.1 e.1 e.2 (List.mem_of_getElem? he)
  rw [hq] at this
  exact this
theorem dataK_none {q : AV → Option Bool} {α : Type} {ky : α → AV} {es : List (α × Nat)} {Kf : α → Nat → Prop} {Kn : Prop} (h : dataK q ky es Kf Kn) (hq : ∀ e ∈ es, q (ky e.1) = some false) : Kn :=
  h.2 fun a b hab => by rw [hq (a, b) hab]
def defdC (q : AV → Option Bool) (es : List (AV × AV × Nat)) : Bool := es.all fun e => (q e.1).isSome
def findC (q : AV → Option Bool) : List (AV × AV × Nat) → Nat → (Option (Nat × AV × AV) → Prop) → Prop
  | [], _, K => K none
  | e :: es, i, K =>
    match q e.1 with
    | some b => br b (ck (defdC q es) (K (some (i, e.1, e.2.1)))) (findC q es (i + 1) K)
    | none => False
theorem findC_sound {q : AV → Option Bool} : ∀ {es : List (AV × AV × Nat)} {i : Nat} {K : Option (Nat × AV × AV) → Prop}, findC q es i K →
    (∀ e ∈ es, ∃ c, q e.1 = some c) ∧ ((∃ j e, es[j]? = some e ∧ q e.1 = some true ∧ (∀ m < j, ∀ x, es[m]? = some x → q x.1 = some false) ∧ K (some (i + j, e.1, e.2.1))) ∨ ((∀ e ∈ es, q e.1 = some false) ∧ K none))
  | [], i, K, h => ⟨fun e he => (by simp at he), .inr ⟨fun e he => (by simp at he), h⟩⟩
  | e :: es, i, K, h => by
    simp only [findC] at h
    split at h
    · rename_i b hb
      cases b with
      | true =>
        obtain ⟨hd, h⟩ := ck_spec h
        refine ⟨fun x hx => ?_, .inl ⟨0, e, rfl, hb, fun m hm => by omega, h⟩⟩
        rcases List.mem_cons.1 hx with rfl | hx
        · exact ⟨_, hb⟩
        · have := List.all_eq_true.1 hd x hx
          cases hq : q x.1 with
          | some c => exact ⟨c, rfl⟩
          | none => rw [hq] at this; cases this
      | false =>
        obtain ⟨h1, h2⟩ := findC_sound (es := es) h
        refine ⟨fun x hx => ?_, ?_⟩
        · rcases List.mem_cons.1 hx with rfl | hx
          · exact ⟨_, hb⟩
          · exact h1 x hx
        · rcases h2 with ⟨j, x, h3, h4, h5, h6⟩ | ⟨h3, h4⟩
          · refine .inl ⟨j + 1, x, by simpa using h3, h4, fun m hm y hy => ?_, by rw [show i + (j + 1) = i + 1 + j by omega]; exact h6⟩
            cases m with
            | zero => simp at hy; subst hy; exact hb
            | succ m => exact h5 m (by omega) y (by simpa using hy)
          · refine .inr ⟨fun x hx => ?_, h4⟩
            rcases List.mem_cons.1 hx with rfl | hx
            · exact hb
            · exact h3 x hx
    · exact h.elim
def toDs (es : List (AV × AV × Nat)) : List ((AV × AV) × Nat) := es.map fun e => ((e.1, e.2.1), e.2.2)
theorem toDs_den (es : List (AV × AV × Nat)) : mapDs (fun e : AV × AV => e.1) (fun e => e.2) (toDs es) = mapEs es := by
  simp [mapDs, mapEs, toDs, Function.comp_def]
theorem run_findC {P : Program} {tab : Tab} (ht : TabOk P tab) {key : Nat} {ki : TI} (hk : tab.get key = some ki) {k : AV} {es : List (AV × AV × Nat)} {K : Option (Nat × AV × AV) → Prop} (h : findC (eqKey tab key ki.d k) es 0 K) :
    ∃ r, K r ∧ (∀ w, (Instr.findKey key k.den (mapEs es).toList).run P w = .ok (r.map fun p => (p.1, p.2.2.den)) w) ∧ ∀ p, r = some p → ∃ e, es[p.1]? = some e ∧ e.1 = p.2.1 ∧ eqKey tab key ki.d k p.2.1 = some true := by
  obtain ⟨hd, h⟩ := findC_sound h
  have hget : ∀ (i : Nat) (e : (AV × AV) × Nat), (toDs es)[i]? = some e → ∃ x, es[i]? = some x ∧ e = ((x.1, x.2.1), x.2.2) := fun i e he => by
    simp only [toDs, List.getElem?_map, Option.map_eq_some_iff] at he
    obtain ⟨x, hx, rfl⟩ := he
    exact ⟨x, hx, rfl⟩
  have hdef : ∀ e ∈ toDs es, ∃ c, eqKey tab key ki.d k e.1.1 = some c := fun e he => by
    obtain ⟨x, hx, rfl⟩ := List.mem_map.1 he
    exact hd x hx
  have hr := run_findKey_data (P := P) ht hk (k := k) (ky := fun e : AV × AV => e.1) (vl := fun e => e.2) (toDs es) hdef
  rw [toDs_den] at hr
  rcases h with ⟨j, e, h1, h2, h3, h4⟩ | ⟨h1, h2⟩
  · rcases hr with ⟨i, e', g1, g2, g3, g4⟩ | ⟨g1, _⟩
    · obtain ⟨x, hx, rfl⟩ := hget i e' g1
      have hij : i = j := by
        rcases Nat.lt_trichotomy i j with hlt | he | hlt
        · have := h3 i hlt x hx; rw [this] at g2; cases g2
        · exact he
        · have := g3 j hlt ((e.1, e.2.1), e.2.2) (by simp [toDs, h1]); simp only at this; rw [h2] at this; cases this
      subst hij
      rw [hx] at h1
      have hxe : x = e := Option.some.inj h1
      subst hxe
      refine ⟨some (i, x.1, x.2.1), by simpa using h4, fun w => by simpa using g4 w, fun p hp => ?_⟩
      cases hp
      exact ⟨x, hx, rfl, h2⟩
    · have := g1 ((e.1, e.2.1), e.2.2) (List.mem_map.2 ⟨e, List.mem_of_getElem? h1, rfl⟩)
      simp only at this
      rw [h2] at this; cases this
  · rcases hr with ⟨i, e', g1, g2, g3, g4⟩ | ⟨_, g2⟩
    · obtain ⟨x, hx, rfl⟩ := hget i e' g1
      have := h1 x (List.mem_of_getElem? hx)
      simp only at g2
      rw [this] at g2; cases g2
    · exact ⟨none, h2, fun w => by simpa using g2 w, fun p hp => by cases hp⟩
def easyKey (tab : Tab) (t : Nat) : Bool :=
  match tab.get t with
  | some ⟨_, _, _, .map key _, _⟩ => (match tab.get key with | some ki => keyTD ki.d | none => true)
  | _ => true
def lookupC (tab : Tab) (t : TypeId) (m n : Nat) (es : List (AV × AV × Nat)) (k : AV) (ok : Bool) (K : AV → Prop) : Prop :=
  match tab.get t with
  | some ⟨_, _, _, .map key e, _⟩ =>
    (match tab.get key, tab.get e with
     | some ki, some ei => ck (keyOk tab 20 key k) <| n = m ∧ findC (eqKey tab key ki.d k) es 0 fun r => lookupK.outK ei.zero ok (r.map fun p => (p.1, p.2.2)) K
     | _, _ => False)
  | _ => False
def lookupQ (tab : Tab) (H : HH) (t : TypeId) (x k : AV) (ok : Bool) (K : AV → Prop) : Prop :=
  match x with
  | .mp id n =>
    match nth H id with
    | some ⟨m, .mapc es _, _⟩ => (match easyKey tab t with | true => lookupK tab H t x k ok K | false => lookupC tab t m n es k ok K)
    | _ => lookupK tab H t x k ok K
  | x => lookupK tab H t x k ok K
theorem lookupC_data {P : Program} {tab : Tab} (ht : TabOk P tab) {t : TypeId} {m n clock : Nat} {es : List (AV × AV × Nat)} {k : AV} {ok : Bool} {K : AV → Prop} (h : lookupC tab t m n es k ok K) :
    n = m ∧ ∃ v, K v ∧ ∀ w, w.heap[n]? = some (.map (mapEs es) clock) → (Instr.lookup t (.map (some n)) k.den ok).run P w = .ok v.den w := by
  unfold lookupC at h
  split at h
  · rename_i key e _ htt
    split at h
    · rename_i ki ei hki hei
      have g_ := ck_spec h
      clear h
      obtain ⟨hko, rfl, h⟩ := g_
      refine ⟨rfl, ?_⟩
      have hd := (ht.get htt).desc
      simp only [DescOk] at hd
      have hz := fun w => (ht.get hei).run_zero w
      have hg : ∀ w : World, w.heap[n]? = some (.map (mapEs es) clock) → (getObj n).run P w = .ok (.map (mapEs es) clock) w := fun w hc => by simp [getObj, Sem.run, hc]
      have hck : ∀ (b : Bool) (w : World), (Instr.checkKey b 10000 key k.den).run P w = .ok () w := fun b w => run_checkKey_av ht b w 20 key k 10000 (by omega) hko
      obtain ⟨r, hr, hf, _⟩ := run_findC (P := P) ht hki h
      cases r with
      | none => cases ok <;> exact ⟨_, hr, fun w hc => by simp [Instr.lookup, AV.den, denL, run_underlying hd, hg w hc, hck, hf, hz]⟩
      | some p => cases ok <;> exact ⟨_, hr, fun w hc => by simp [Instr.lookup, AV.den, denL, run_underlying hd, hg w hc, hck, hf]⟩
    · exact h.elim
  · exact h.elim
theorem lookupQ_sound {P : Program} {tab : Tab} (ht : TabOk P tab) {H : HH} {w : World} (hh : HoldsH H w) {t : TypeId} {x k : AV} {ok : Bool} {K : AV → Prop} (h : lookupQ tab H t x k ok K) :
    ∃ v, K v ∧ (Instr.lookup t x.den k.den ok).run P w = .ok v.den w := by
  unfold lookupQ at h
  split at h
  · rename_i id n
    split at h
    · rename_i m es clock own hb
      split at h
      · exact lookupK_sound ht hh h
      · obtain ⟨rfl, v, hv, hr⟩ := lookupC_data (P := P) (clock := clock) ht h
        rw [nth_eq] at hb
        exact ⟨v, hv, hr w (hh.all id _ hb)⟩
    · exact lookupK_sound ht hh h
  · exact lookupK_sound ht hh h
def lookupP (tab : Tab) (H : HH) (t : TypeId) (x k : AV) (ok : Bool) (K : AV → Prop) : Prop :=
  match x with
  | .mp id n =>
    match nth H id with
    | some ⟨m, .mape _ ky vl _ es _, _⟩ =>
      (match tab.get t with
       | some ⟨_, _, _, .map key e, _⟩ =>
         (match tab.get key, tab.get e with
          | some ki, some ei => ck (keyOk tab 20 key k) <| n = m ∧ dataK (eqKey tab key ki.d k) ky es (fun a _ => lookupK.outK ei.zero ok (some (0, vl a)) K) (lookupK.outK ei.zero ok none K)
          | _, _ => False)
       | _ => False)
    | _ => lookupQ tab H t x k ok K
  | x => lookupQ tab H t x k ok K
theorem lookupP_data {P : Program} {tab : Tab} (ht : TabOk P tab) {α : Type} {ky vl : α → AV} {es : List (α × Nat)} {clock n : Nat} {t key e : Nat} {sz bytes : Nat} {z : AV} {eqok : Bool} {ki ei : TI}
    (htt : tab.get t = some ⟨sz, bytes, z, .map key e, eqok⟩) (hki : tab.get key = some ki) (hei : tab.get e = some ei) {k : AV} (hko : keyOk tab 20 key k = true) {ok : Bool} {K : AV → Prop}
    (h : dataK (eqKey tab key ki.d k) ky es (fun a _ => lookupK.outK ei.zero ok (some (0, vl a)) K) (lookupK.outK ei.zero ok none K)) :
    ∃ v, K v ∧ ∀ w, w.heap[n]? = some (.map (mapDs ky vl es) clock) → (Instr.lookup t (.map (some n)) k.den ok).run P w = .ok v.den w := by
  have hd := (ht.get htt).desc
  simp only [DescOk] at hd
  have hz := fun w => (ht.get hei).run_zero w
  have hg : ∀ w : World, w.heap[n]? = some (.map (mapDs ky vl es) clock) → (getObj n).run P w = .ok (.map (mapDs ky vl es) clock) w := fun w hc => by simp [getObj, Sem.run, hc]
  have hck : ∀ (b : Bool) (w : World), (Instr.checkKey b 10000 key k.den).run P w = .ok () w := fun b w => run_checkKey_av ht b w 20 key k 10000 (by omega) hko
  rcases run_findKey_data (P := P) ht hki (vl := vl) (k := k) es (dataK_defined h) with ⟨i, e', h1, h2, _, hr⟩ | ⟨h1, hr⟩
  · have hk := dataK_found h h1 h2
    cases ok
    · exact ⟨_, hk, fun w hc => by simp [Instr.lookup, AV.den, denL, run_underlying hd, hg w hc, hck, hr]⟩
    · exact ⟨_, hk, fun w hc => by simp [Instr.lookup, AV.den, denL, run_underlying hd, hg w hc, hck, hr]⟩
  · have hk := dataK_none h h1
    cases ok
    · exact ⟨_, hk, fun w hc => by simp [Instr.lookup, AV.den, denL, run_underlying hd, hg w hc, hck, hr, hz]⟩
    · exact ⟨_, hk, fun w hc => by simp [Instr.lookup, AV.den, denL, run_underlying hd, hg w hc, hck, hr, hz]⟩
theorem lookupP_sound {P : Program} {tab : Tab} (ht : TabOk P tab) {H : HH} {w : World} (hh : HoldsH H w) {t : TypeId} {x k : AV} {ok : Bool} {K : AV → Prop} (h : lookupP tab H t x k ok K) :
    ∃ v, K v ∧ (Instr.lookup t x.den k.den ok).run P w = .ok v.den w := by
  unfold lookupP at h
  split at h
  · rename_i id n
    split at h
    · rename_i m α ky vl mk es clock own hb
      split at h
      · rename_i key e _ htt
        split at h
        · rename_i ki ei hki hei
          have g_ := ck_spec h
          clear h
          obtain ⟨hko, rfl, h⟩ := g_
          obtain ⟨v, hv, hr⟩ := lookupP_data (P := P) (n := n) (clock := clock) ht htt hki hei hko h
          rw [nth_eq] at hb
          exact ⟨v, hv, hr w (hh.all id _ hb).1⟩
        · exact h.elim
      · exact h.elim
    · exact lookupQ_sound ht hh h
  · exact lookupQ_sound ht hh h
def setE {α : Type} (es : List (α × Nat)) (b : Nat) (a : α) : List (α × Nat) := es.map fun e => if e.2 = b then (a, b) else e
def dropE {α : Type} (es : List (α × Nat)) (b : Nat) : List (α × Nat) := es.filter fun e => !Nat.beq e.2 b
theorem setE_born {α : Type} (b : Nat) (a : α) : ∀ es : List (α × Nat), (setE es b a).map (·.2) = es.map (·.2)
  | [] => rfl
  | e :: es => by
    have ih := setE_born b a es
    simp only [setE, List.map_cons] at ih ⊢
    rw [ih]
    congr 1
    split
    · rename_i h; exact h.symm
    · rfl
theorem setE_mem {α : Type} {b : Nat} {a : α} {es : List (α × Nat)} {e : α × Nat} (h : e ∈ setE es b a) : ∃ e' ∈ es, e'.2 = e.2 := by
  obtain ⟨e', he', rfl⟩ := List.mem_map.1 h
  refine ⟨e', he', ?_⟩
  split
  · rename_i h; exact h
  · rfl
theorem setE_none {α : Type} (b : Nat) (a : α) : ∀ es : List (α × Nat), b ∉ es.map (·.2) → setE es b a = es
  | [], _ => rfl
  | e :: es, h => by
    simp only [List.map_cons, List.mem_cons, not_or] at h
    have ih := setE_none b a es h.2
    simp only [setE, List.map_cons] at ih ⊢
    rw [ih, if_neg (fun x => h.1 x.symm)]
theorem dropE_none {α : Type} (b : Nat) : ∀ es : List (α × Nat), b ∉ es.map (·.2) → dropE es b = es
  | [], _ => rfl
  | e :: es, h => by
    simp only [List.map_cons, List.mem_cons, not_or] at h
    have ih := dropE_none b es h.2
    have hb : Nat.beq e.2 b = false := by
      cases hb : Nat.beq e.2 b with
      | false => rfl
      | true => exact absurd (Nat.eq_of_beq_eq_true hb).symm h.1
    simp only [dropE, List.filter_cons, hb, Bool.not_false, if_true] at ih ⊢
    rw [ih]
theorem setE_den {α : Type} {ky vl : α → AV} (k v : Value) {a : α} (hk : (ky a).den = k) (hv : (vl a).den = v) : ∀ (es : List (α × Nat)) (i : Nat) (e : α × Nat), (es.map (·.2)).Nodup → es[i]? = some e →
    (mapDs ky vl es).modify i (fun e => { e with key := k, val := v }) = mapDs ky vl (setE es e.2 a) := by
  intro es
  induction es with
  | nil => intro i e _ h; simp at h
  | cons x es ih =>
    intro i e hn h
    simp only [List.map_cons, List.nodup_cons] at hn
    cases i with
    | zero =>
      simp at h; subst h
      apply Array.ext'
      have h0 : setE (x :: es) x.2 a = (a, x.2) :: es := by
        have := setE_none x.2 a es hn.1
        simp only [setE, List.map_cons, if_true] at this ⊢
        rw [this]
      rw [h0]
      simp [mapDs, Array.toList_modify, List.modify, hk, hv]
    | succ i =>
      have h' : es[i]? = some e := by simpa using h
      have he2 : e.2 ∈ es.map (·.2) := List.mem_map.2 ⟨e, List.mem_of_getElem? h', rfl⟩
      have hne : x.2 ≠ e.2 := fun eq => hn.1 (eq ▸ he2)
      have := ih i e hn.2 h'
      apply Array.ext'
      have h2 := congrArg Array.toList this
      simp only [mapDs, Array.toList_modify] at h2 ⊢
      simp only [setE, List.map_cons, if_neg hne, List.modify_succ_cons]
      simp only [setE] at h2
      rw [h2]
theorem dropE_den {α : Type} {ky vl : α → AV} : ∀ (es : List (α × Nat)) (i : Nat) (e : α × Nat), (es.map (·.2)).Nodup → es[i]? = some e → (mapDs ky vl es).eraseIdxIfInBounds i = mapDs ky vl (dropE es e.2) := by
  intro es i e hn h
  apply Array.ext'
  simp only [mapDs, Array.toList_eraseIdxIfInBounds, map_eraseIdx]
  congr 1
  induction es generalizing i with
  | nil => simp at h
  | cons x es ih =>
    simp only [List.map_cons, List.nodup_cons] at hn
    cases i with
    | zero =>
      simp at h; subst h
      have h0 := dropE_none x.2 es hn.1
      have hb : Nat.beq x.2 x.2 = true := Nat.beq_refl _
      simp only [dropE, List.filter_cons, hb, Bool.not_true, Bool.false_eq_true, if_false] at h0 ⊢
      rw [h0]; rfl
    | succ i =>
      have h' : es[i]? = some e := by simpa using h
      have he2 : e.2 ∈ es.map (·.2) := List.mem_map.2 ⟨e, List.mem_of_getElem? h', rfl⟩
      have hb : Nat.beq x.2 e.2 = false := by
        cases hb : Nat.beq x.2 e.2 with
        | false => rfl
        | true => exact absurd (Nat.eq_of_beq_eq_true hb ▸ he2) hn.1
      have := ih i hn.2 h'
      simp only [dropE, List.filter_cons, hb, Bool.not_false, if_true, List.eraseIdx_cons_succ] at this ⊢
      rw [this]
theorem dropE_mem {α : Type} {b : Nat} {es : List (α × Nat)} {e : α × Nat} (h : e ∈ dropE es b) : e ∈ es ∧ e.2 ≠ b := by
  obtain ⟨h1, h2⟩ := List.mem_filter.1 h
  refine ⟨h1, fun e' => ?_⟩
  rw [e'] at h2
  simp [Nat.beq_refl] at h2
theorem mem_dropE {α : Type} {b : Nat} {es : List (α × Nat)} {e : α × Nat} (h : e ∈ es) (hb : e.2 ≠ b) : e ∈ dropE es b := by
  refine List.mem_filter.2 ⟨h, ?_⟩
  cases hb' : Nat.beq e.2 b with
  | false => rfl
  | true => exact absurd (Nat.eq_of_beq_eq_true hb') hb
def bitsOk : AV → Bool
  | .v (.int _ _) | .v (.string _) | .v (.bool _) => true
  | .agg l => l.all fun x => match x with | .v (.int _ _) | .v (.string _) | .v (.bool _) => true | _ => false
  | _ => false
theorem bytes_beq (s : ByteArray) : (s == s) = true := by rw [beq_toListBytes, eqS_eq]; simp [eqS]
theorem bitsOk_same {k : AV} (h : bitsOk k = true) (n : Nat) : Instr.sameBits (n + 1) k.den k.den = true := by
  have one : ∀ (m : Nat) (x : AV), (match x with | .v (.int _ _) | .v (.string _) | .v (.bool _) => true | _ => false) = true → Instr.sameBits m x.den x.den = true := by
    intro m x hx
    split at hx
    · cases m <;> simp [AV.den, Instr.sameBits]
    · cases m <;> simp [AV.den, Instr.sameBits, bytes_beq]
    · cases m <;> simp [AV.den, Instr.sameBits]
    · cases hx
  unfold bitsOk at h
  split at h
  · simp [AV.den, Instr.sameBits]
  · simp [AV.den, Instr.sameBits, bytes_beq]
  · simp [AV.den, Instr.sameBits]
  · rename_i l
    simp only [AV.den, Instr.sameBits, Bool.and_eq_true, beq_self_eq_true, true_and]
    rw [List.all_eq_true] at h ⊢
    rintro ⟨x, y⟩ hxy
    have e : x = y ∧ x ∈ denL l := by
      have : ∀ (l : List Value) (x y : Value), (x, y) ∈ l.zip l → x = y ∧ x ∈ l := by
        intro l
        induction l with
        | nil => intro x y h; simp at h
        | cons a l ih =>
          intro x y h
          simp only [List.zip_cons_cons, List.mem_cons, Prod.mk.injEq] at h
          rcases h with ⟨rfl, rfl⟩ | h
          · exact ⟨rfl, by simp⟩
          · obtain ⟨h1, h2⟩ := ih x y h; exact ⟨h1, by simp [h2]⟩
      exact this _ x y hxy
    obtain ⟨rfl, hx⟩ := e
    rw [denL_map] at hx
    obtain ⟨z, hz, rfl⟩ := List.mem_map.1 hx
    exact one n z (h z hz)
  · cases h
def stayK (d : TD) (x k : AV) (A : Prop) : Prop :=
  match keyTD d with
  | true => A
  | false => ck (bitsOk k) (x = k ∧ A)
def updateC (tab : Tab) (H : HH) (t : TypeId) (id m n : Nat) (es : List (AV × AV × Nat)) (clock : Nat) (own : Bool) (k v : AV) (K : HH → Prop) : Prop :=
  match tab.get t with
  | some ⟨_, _, _, .map key _, _⟩ =>
    (match tab.get key with
     | some ki => ck (own && keyOk tab 20 key k) <| n = m ∧ findC (eqKey tab key ki.d k) es 0 fun r =>
       match r with
       | some p => stayK ki.d p.2.1 k (K (H.set id ⟨m, .mapc (setVal es p.1 k v) clock, own⟩))
       | none => K (H.set id ⟨m, .mapc (es ++ [(k, v, clock)]) (clock + 1), own⟩)
     | none => False)
  | _ => False
def updateQ (tab : Tab) (H : HH) (t : TypeId) (x k v : AV) (K : HH → Prop) : Prop :=
  match x with
  | .mp id n =>
    match nth H id with
    | some ⟨m, .mapc es clock, own⟩ => (match easyKey tab t with | true => updateK tab H t x k v K | false => updateC tab H t id m n es clock own k v K)
    | _ => updateK tab H t x k v K
  | x => updateK tab H t x k v K
theorem updateQ_sound {P : Program} {tab : Tab} (ht : TabOk P tab) {w0 : World} {fp H : HH} {w : World} (hh : HeapOk w0 fp H w) {t : TypeId} {x k v : AV} {K : HH → Prop} (h : updateQ tab H t x k v K) :
    ∃ H' w', K H' ∧ HeapOk w0 fp H' w' ∧ (Instr.mapUpdate t x.den k.den v.den).run P w = .ok () w' := by
  unfold updateQ at h
  split at h
  · rename_i id n
    split at h
    · rename_i m es clock own hb
      split at h
      · exact updateK_sound ht hh h
      · unfold updateC at h
        split at h
        · rename_i key e _ htt
          split at h
          · rename_i ki hki
            have g_ := ck_spec h
            clear h
            obtain ⟨hck, rfl, h⟩ := g_
            simp only [Bool.and_eq_true] at hck
            obtain ⟨rfl, hko⟩ := hck
            have hd := (ht.get htt).desc
            simp only [DescOk] at hd
            rw [nth_eq] at hb
            have hc := hh.hp.all id _ hb
            simp only [Cont.holds] at hc
            obtain ⟨r, hr, hf, hp⟩ := run_findC (P := P) ht hki h
            have hg : (getObj n).run P w = .ok (.map (mapEs es) clock) w := by simp [getObj, Sem.run, hc]
            have hset : ∀ o, (setObj n o).run P w = .ok () { w with heap := w.heap.setIfInBounds n o } := fun o => by simp [setObj, Sem.run, hc]
            have hlt := lt_of_some hc
            have hck : ∀ b : Bool, (Instr.checkKey b 10000 key k.den).run P w = .ok () w := fun b => run_checkKey_av ht b w 20 key k 10000 (by omega) hko
            have turn : ∀ (es' : List (AV × AV × Nat)) (c' : Nat), HeapOk w0 fp (H.set id ⟨n, .mapc es' c', true⟩) { w with heap := w.heap.setIfInBounds n (.map (mapEs es') c') } := fun es' c' => by
              refine hh.turn hb rfl _ ?_ rfl rfl rfl (by simp) (fun q hq => ?_)
              · simp only [Cont.holds]
                simp [hlt]
              · have : n ≠ q := fun e => hq e.symm
                simp [Array.getElem?_setIfInBounds, this]
            cases r with
            | none =>
              refine ⟨_, _, hr, turn _ _, ?_⟩
              have e1 : (mapEs es).push { key := k.den, val := v.den, born := clock } = mapEs (es ++ [(k, v, clock)]) := by simp [mapEs]
              simp [Instr.mapUpdate, AV.den, run_underlying hd, hg, hck, hf, hset, e1]
            | some p =>
              obtain ⟨e', he', hke, hkq⟩ := hp p rfl
              have hstay : (Instr.keyThatStays p.2.1.den k.den).run P w = .ok k.den w ∧ K (H.set id ⟨n, .mapc (setVal es p.1 k v) clock, true⟩) := by
                simp only [stayK] at hr
                split at hr
                · rename_i hkt
                  simp only [eqKey, hkt] at hkq
                  exact ⟨by simp [Instr.keyThatStays, keyEq_bits hkq], hr⟩
                · obtain ⟨g1, g2, g3⟩ := ck_spec hr
                  exact ⟨by rw [g2]; simp [Instr.keyThatStays, bitsOk_same g1 9999], g3⟩
              refine ⟨_, _, hstay.2, turn _ _, ?_⟩
              have e1 := setVal_den es p.1 k v
              have e2 : ((mapEs es)[p.1]?.map (·.key)).getD k.den = p.2.1.den := by simp [mapEs, he', hke]
              simp only [Instr.mapUpdate, AV.den, Sem.run_bind, run_underlying hd, Result.andThen_ok, hg, hck, hf, Option.map_some, e2, hstay.1, e1, hset]
          · exact h.elim
        · exact h.elim
    · exact updateK_sound ht hh h
  · exact updateK_sound ht hh h
def updateP (tab : Tab) (H : HH) (t : TypeId) (x k v : AV) (K : HH → Prop) : Prop :=
  match x with
  | .mp id n =>
    match nth H id with
    | some ⟨m, .mape α ky vl mk es clock, own⟩ =>
      (match tab.get t with
       | some ⟨_, _, _, .map key _, _⟩ =>
         (match tab.get key with
          | some ki => ck (own && keyOk tab 20 key k) <| n = m ∧
            (match mk k v with
             | some a => dataK (eqKey tab key ki.d k) ky es (fun a0 b => stayK ki.d (ky a0) k (K (H.set id ⟨m, .mape α ky vl mk (setE es b a) clock, own⟩))) (K (H.set id ⟨m, .mape α ky vl mk (es ++ [(a, clock)]) (clock + 1), own⟩))
             | none => False)
          | none => False)
       | _ => False)
    | _ => updateQ tab H t x k v K
  | x => updateQ tab H t x k v K
theorem updateP_sound {P : Program} {tab : Tab} (ht : TabOk P tab) {w0 : World} {fp H : HH} {w : World} (hh : HeapOk w0 fp H w) {t : TypeId} {x k v : AV} {K : HH → Prop} (h : updateP tab H t x k v K) :
    ∃ H' w', K H' ∧ HeapOk w0 fp H' w' ∧ (Instr.mapUpdate t x.den k.den v.den).run P w = .ok () w' := by
  unfold updateP at h
  split at h
  · rename_i id n
    split at h
    · rename_i m α ky vl mk es clock own hb
      split at h
      · rename_i key e _ htt
        split at h
        · rename_i ki hki
          have g_ := ck_spec h
          clear h
          obtain ⟨hck, rfl, h⟩ := g_
          simp only [Bool.and_eq_true] at hck
          obtain ⟨rfl, hko⟩ := hck
          split at h
          · rename_i a hmk
            have hd := (ht.get htt).desc
            simp only [DescOk] at hd
            rw [nth_eq] at hb
            have hc := hh.hp.all id _ hb
            simp only [Cont.holds] at hc
            obtain ⟨hc, hnd, hlt', hlaw⟩ := hc
            obtain ⟨hka, hva⟩ := hlaw k v a hmk
            have hg : (getObj n).run P w = .ok (.map (mapDs ky vl es) clock) w := by simp [getObj, Sem.run, hc]
            have hset : ∀ o, (setObj n o).run P w = .ok () { w with heap := w.heap.setIfInBounds n o } := fun o => by simp [setObj, Sem.run, hc]
            have hlt := lt_of_some hc
            have hck : ∀ b : Bool, (Instr.checkKey b 10000 key k.den).run P w = .ok () w := fun b => run_checkKey_av ht b w 20 key k 10000 (by omega) hko
            have turn : ∀ (es' : List (α × Nat)) (c' : Nat), (es'.map (·.2)).Nodup → (∀ e ∈ es', e.2 < c') → HeapOk w0 fp (H.set id ⟨n, .mape α ky vl mk es' c', true⟩) { w with heap := w.heap.setIfInBounds n (.map (mapDs ky vl es') c') } := fun es' c' h1 h2 => by
              refine hh.turn hb rfl _ ?_ rfl rfl rfl (by simp) (fun q hq => ?_)
              · simp only [Cont.holds]
                exact ⟨by simp [hlt], h1, h2, hlaw⟩
              · have : n ≠ q := fun e => hq e.symm
                simp [Array.getElem?_setIfInBounds, this]
            rcases run_findKey_data (P := P) ht hki (vl := vl) (k := k) es (dataK_defined h) with ⟨i, e', h1, h2, _, hr⟩ | ⟨h1, hr⟩
            · have hk := dataK_found h h1 h2
              have hstay : (Instr.keyThatStays (ky e'.1).den k.den).run P w = .ok k.den w ∧ K (H.set id ⟨n, .mape α ky vl mk (setE es e'.2 a) clock, true⟩) := by
                unfold stayK at hk
                split at hk
                · rename_i hkt
                  simp only [eqKey, hkt] at h2
                  exact ⟨by simp [Instr.keyThatStays, keyEq_bits h2], hk⟩
                · obtain ⟨g1, g2, g3⟩ := ck_spec hk
                  exact ⟨by rw [g2]; simp [Instr.keyThatStays, bitsOk_same g1 9999], g3⟩
              refine ⟨_, _, hstay.2, turn _ _ (by rw [setE_born]; exact hnd) (fun e he => by obtain ⟨x, hx, hxe⟩ := setE_mem he; rw [← hxe]; exact hlt' x hx), ?_⟩
              have e1 := setE_den (ky := ky) (vl := vl) k.den v.den (a := a) (by rw [hka]) (by rw [hva]) es i e' hnd h1
              have e2 : ((mapDs ky vl es)[i]?.map (·.key)).getD k.den = (ky e'.1).den := by simp [mapDs, h1]
              simp only [Instr.mapUpdate, AV.den, Sem.run_bind, run_underlying hd, Result.andThen_ok, hg, hck, hr, e2, hstay.1, e1, hset]
            · have hk := dataK_none h h1
              refine ⟨_, _, hk, turn _ _ ?_ ?_, ?_⟩
              · rw [List.map_append, List.nodup_append]
                refine ⟨hnd, by simp, fun x hx y hy => ?_⟩
                obtain ⟨e, he, rfl⟩ := List.mem_map.1 hx
                simp at hy; subst hy
                have := hlt' e he; omega
              · intro e he
                rcases List.mem_append.1 he with he | he
                · have := hlt' e he; omega
                · simp at he; subst he; simp
              · have e1 : (mapDs ky vl es).push { key := k.den, val := v.den, born := clock } = mapDs ky vl (es ++ [(a, clock)]) := by simp [mapDs, hka, hva]
                simp only [Instr.mapUpdate, AV.den, Sem.run_bind, run_underlying hd, Result.andThen_ok, hg, hck, hr, e1, hset]
          · exact h.elim
        · exact h.elim
      · exact h.elim
    · exact updateQ_sound ht hh h
  · exact updateQ_sound ht hh h
def deleteC (tab : Tab) (H : HH) (t : TypeId) (id m n : Nat) (es : List (AV × AV × Nat)) (clock : Nat) (own : Bool) (k : AV) (K : HH → Prop) : Prop :=
  match tab.get t with
  | some ⟨_, _, _, .map key _, _⟩ =>
    (match tab.get key with
     | some ki => ck (own && keyOk tab 20 key k) <| n = m ∧ findC (eqKey tab key ki.d k) es 0 fun r =>
       match r with
       | some p => K (H.set id ⟨m, .mapc (es.eraseIdx p.1) clock, own⟩)
       | none => K (H.set id ⟨m, .mapc es clock, own⟩)
     | none => False)
  | _ => False
def deleteQ (tab : Tab) (H : HH) (t : TypeId) (x k : AV) (K : HH → Prop) : Prop :=
  match x with
  | .mp id n =>
    match nth H id with
    | some ⟨m, .mapc es clock, own⟩ => (match easyKey tab t with | true => deleteK tab H t x k K | false => deleteC tab H t id m n es clock own k K)
    | _ => deleteK tab H t x k K
  | x => deleteK tab H t x k K
theorem deleteQ_sound {P : Program} {tab : Tab} (ht : TabOk P tab) {w0 : World} {fp H : HH} {w : World} (hh : HeapOk w0 fp H w) {t : TypeId} {at_ : Array TypeId} (hat : at_[0]? = some t) {x k : AV} {K : HH → Prop} (h : deleteQ tab H t x k K) (ty : TypeId) :
    ∃ H' w', K H' ∧ HeapOk w0 fp H' w' ∧ (Builtin.delete_ at_ ty #[x.den, k.den]).run P w = .ok (.tuple #[]) w' := by
  unfold deleteQ at h
  split at h
  · rename_i id n
    split at h
    · rename_i m es clock own hb
      split at h
      · exact deleteK_sound ht hh hat h ty
      · unfold deleteC at h
        split at h
        · rename_i key e _ htt
          split at h
          · rename_i ki hki
            have g_ := ck_spec h
            clear h
            obtain ⟨hck, rfl, h⟩ := g_
            simp only [Bool.and_eq_true] at hck
            obtain ⟨rfl, hko⟩ := hck
            have hd := (ht.get htt).desc
            simp only [DescOk] at hd
            rw [nth_eq] at hb
            have hc := hh.hp.all id _ hb
            simp only [Cont.holds] at hc
            obtain ⟨r, hr, hf, hp⟩ := run_findC (P := P) ht hki h
            have hg : (getObj n).run P w = .ok (.map (mapEs es) clock) w := by simp [getObj, Sem.run, hc]
            have hset : ∀ o, (setObj n o).run P w = .ok () { w with heap := w.heap.setIfInBounds n o } := fun o => by simp [setObj, Sem.run, hc]
            have hlt := lt_of_some hc
            have hck : ∀ b : Bool, (Instr.checkKey b 10000 key k.den).run P w = .ok () w := fun b => run_checkKey_av ht b w 20 key k 10000 (by omega) hko
            have turn : ∀ (es' : List (AV × AV × Nat)) (c' : Nat), HeapOk w0 fp (H.set id ⟨n, .mapc es' c', true⟩) { w with heap := w.heap.setIfInBounds n (.map (mapEs es') c') } := fun es' c' => by
              refine hh.turn hb rfl _ ?_ rfl rfl rfl (by simp) (fun q hq => ?_)
              · simp only [Cont.holds]
                simp [hlt]
              · have : n ≠ q := fun e => hq e.symm
                simp [Array.getElem?_setIfInBounds, this]
            cases r with
            | none =>
              refine ⟨_, _, hr, turn _ _, ?_⟩
              simp [Builtin.delete_, hat, AV.den, run_underlying hd, hg, hck, hf, hset]
            | some p =>
              refine ⟨_, _, hr, turn _ _, ?_⟩
              have e1 : (mapEs es).eraseIdxIfInBounds p.1 = mapEs (es.eraseIdx p.1) := by
                apply Array.ext'
                simp only [mapEs, List.size_toArray, Array.toList_eraseIdxIfInBounds]
                exact map_eraseIdx _ _ _
              simp [Builtin.delete_, hat, AV.den, run_underlying hd, hg, hck, hf, hset, e1]
          · exact h.elim
        · exact h.elim
    · exact deleteK_sound ht hh hat h ty
  · exact deleteK_sound ht hh hat h ty
def deleteP (tab : Tab) (H : HH) (t : TypeId) (x k : AV) (K : HH → Prop) : Prop :=
  match x with
  | .mp id n =>
    match nth H id with
    | some ⟨m, .mape α ky vl mk es clock, own⟩ =>
      (match tab.get t with
       | some ⟨_, _, _, .map key _, _⟩ =>
         (match tab.get key with
          | some ki => ck (own && keyOk tab 20 key k) <| n = m ∧
            dataK (eqKey tab key ki.d k) ky es (fun _ b => K (H.set id ⟨m, .mape α ky vl mk (dropE es b) clock, own⟩)) (K (H.set id ⟨m, .mape α ky vl mk es clock, own⟩))
          | none => False)
       | _ => False)
    | _ => deleteQ tab H t x k K
  | x => deleteQ tab H t x k K
theorem deleteP_sound {P : Program} {tab : Tab} (ht : TabOk P tab) {w0 : World} {fp H : HH} {w : World} (hh : HeapOk w0 fp H w) {t : TypeId} {at_ : Array TypeId} (hat : at_[0]? = some t) {x k : AV} {K : HH → Prop} (h : deleteP tab H t x k K) (ty : TypeId) :
    ∃ H' w', K H' ∧ HeapOk w0 fp H' w' ∧ (Builtin.delete_ at_ ty #[x.den, k.den]).run P w = .ok (.tuple #[]) w' := by
  unfold deleteP at h
  split at h
  · rename_i id n
    split at h
    · rename_i m α ky vl mk es clock own hb
      split at h
      · rename_i key e _ htt
        split at h
        · rename_i ki hki
          have g_ := ck_spec h
          clear h
          obtain ⟨hck, rfl, h⟩ := g_
          simp only [Bool.and_eq_true] at hck
          obtain ⟨rfl, hko⟩ := hck
          have hd := (ht.get htt).desc
          simp only [DescOk] at hd
          rw [nth_eq] at hb
          have hc := hh.hp.all id _ hb
          simp only [Cont.holds] at hc
          obtain ⟨hc, hnd, hlt', hlaw⟩ := hc
          have hg : (getObj n).run P w = .ok (.map (mapDs ky vl es) clock) w := by simp [getObj, Sem.run, hc]
          have hset : ∀ o, (setObj n o).run P w = .ok () { w with heap := w.heap.setIfInBounds n o } := fun o => by simp [setObj, Sem.run, hc]
          have hlt := lt_of_some hc
          have hck : ∀ b : Bool, (Instr.checkKey b 10000 key k.den).run P w = .ok () w := fun b => run_checkKey_av ht b w 20 key k 10000 (by omega) hko
          have turn : ∀ (es' : List (α × Nat)), (es'.map (·.2)).Nodup → (∀ e ∈ es', e.2 < clock) → HeapOk w0 fp (H.set id ⟨n, .mape α ky vl mk es' clock, true⟩) { w with heap := w.heap.setIfInBounds n (.map (mapDs ky vl es') clock) } := fun es' h1 h2 => by
            refine hh.turn hb rfl _ ?_ rfl rfl rfl (by simp) (fun q hq => ?_)
            · simp only [Cont.holds]
              exact ⟨by simp [hlt], h1, h2, hlaw⟩
            · have : n ≠ q := fun e => hq e.symm
              simp [Array.getElem?_setIfInBounds, this]
          rcases run_findKey_data (P := P) ht hki (vl := vl) (k := k) es (dataK_defined h) with ⟨i, e', h1, h2, _, hr⟩ | ⟨h1, hr⟩
          · have hk := dataK_found h h1 h2
            refine ⟨_, _, hk, turn _ ?_ (fun e he => hlt' e (dropE_mem he).1), ?_⟩
            · exact List.Nodup.sublist (List.Sublist.map _ List.filter_sublist) hnd
            · have e1 := dropE_den (ky := ky) (vl := vl) es i e' hnd h1
              simp [Builtin.delete_, hat, AV.den, run_underlying hd, hg, hck, hr, hset, e1]
          · have hk := dataK_none h h1
            refine ⟨_, _, hk, turn _ hnd hlt', ?_⟩
            simp [Builtin.delete_, hat, AV.den, run_underlying hd, hg, hck, hr, hset]
        · exact h.elim
      · exact h.elim
    · exact deleteQ_sound ht hh hat h ty
  · exact deleteQ_sound ht hh hat h ty
def nextP (H : HH) (it : AV) (K : AV → HH → Prop) : Prop :=
  match it with
  | .ptr id n 0 =>
    match nth H id with
    | some ⟨m, .itere mid mn since rseen, own⟩ =>
      (match nth H mid with
       | some ⟨mm, .mape _ ky vl _ es clock, _⟩ => ck own <| n = m ∧ mn = mm ∧ clock = since ∧
         (∀ a b, (a, b) ∈ es → b ∉ rseen → K (.tup [.v (.bool true), ky a, vl a]) (H.set id ⟨m, .itere mid mn since (b :: rseen), own⟩)) ∧
         ((∀ a b, (a, b) ∈ es → b ∈ rseen) → K (.tup [.v (.bool false)]) H)
       | _ => False)
    | _ => nextK H it K
  | it => nextK H it K
theorem nextP_sound {P : Program} {w0 : World} {fp H : HH} {w : World} (hh : HeapOk w0 fp H w) {it : AV} {K : AV → HH → Prop} (h : nextP H it K) (ty : TypeId) :
    ∃ v H' w', K v H' ∧ HeapOk w0 fp H' w' ∧ (Instr.next it.den false ty).run P w = .ok v.den w' := by
  unfold nextP at h
  split at h
  · rename_i id n
    split at h
    · rename_i m mid mn since rseen own hb
      split at h
      · rename_i mm α ky vl mk es clock ownm hbm
        have g_ := ck_spec h
        clear h
        obtain ⟨rfl, rfl, rfl, rfl, h1, h2⟩ := g_
        rw [nth_eq] at hb hbm
        have hc := hh.hp.all id _ hb
        have hcm := hh.hp.all mid _ hbm
        simp only [Cont.holds] at hc hcm
        obtain ⟨hcm, hnd, hlt', hlaw⟩ := hcm
        have hold : ∀ x ∈ (mapDs ky vl es).toList, x.born < clock := by
          intro x hx
          simp only [mapDs, List.mem_map] at hx
          obtain ⟨e, he, rfl⟩ := hx
          exact hlt' e he
        rcases run_next_at (P := P) w ty n mn clock clock rseen.reverse.toArray (mapDs ky vl es) clock hc hcm hold (Nat.le_refl _) with ⟨h0, hr⟩ | ⟨e, he, w1, hw1, hr⟩
        · refine ⟨_, H, w, h2 (fun a b hab => ?_), hh, by simpa [AV.den, denL] using hr⟩
          apply Classical.byContradiction
          intro hb'
          have : ({ key := (ky a).den, val := (vl a).den, born := b } : MapEntry) ∈ (leftOf (mapDs ky vl es) rseen.reverse.toArray).toList := by
            simp only [leftOf, mapDs, Array.toList_filter, List.mem_filter, List.mem_map]
            exact ⟨⟨(a, b), hab, rfl⟩, by simpa using hb'⟩
          rw [List.eq_nil_of_length_eq_zero (l := (leftOf (mapDs ky vl es) rseen.reverse.toArray).toList) (by simpa using h0)] at this
          simp at this
        · simp only [leftOf, mapDs, Array.toList_filter, List.mem_filter, List.mem_map] at he
          obtain ⟨⟨⟨a, b⟩, hab, rfl⟩, hns⟩ := he
          have hb' : b ∉ rseen := by simpa using hns
          have hk := h1 a b hab hb'
          have hh1 : HeapOk w0 fp H w1 := by
            rcases hw1 with rfl | rfl
            · exact hh
            · exact hh.same { heap := rfl, os := rfl, tape := rfl, output := rfl }
          have hc1 : w1.heap[n]? = some (.mapIter (some mn) clock rseen.reverse.toArray clock) := by rcases hw1 with rfl | rfl <;> exact hc
          have hlt : n < w1.heap.size := lt_of_some hc1
          refine ⟨_, _, _, hk, ?_, by simpa [AV.den, denL] using hr⟩
          refine hh1.turn hb rfl _ ?_ rfl rfl rfl (by simp [Go.ChangeMaps.setBlock]) (fun q hq => ?_)
          · simp only [Cont.holds, Go.ChangeMaps.setBlock]
            simp [hlt]
          · have : n ≠ q := fun e => hq e.symm
            simp [Go.ChangeMaps.setBlock, Array.getElem?_setIfInBounds, this]
      · exact h.elim
    · exact nextK_sound hh h ty
  · exact nextK_sound hh h ty
def nextS (H : HH) (it : AV) (K : AV → HH → Prop) : Prop :=
  match it with
  | .ptr id n 0 =>
    match nth H id with
    | some ⟨m, .iters s pos, own⟩ => ck own <| n = m ∧
      br (Nat.blt pos s.size) (K (.tup [.v (.bool true), .v (.int .i64 pos), .v (.int .i32 (Utf8.decode s pos).1)]) (H.set id ⟨m, .iters s (pos + (Utf8.decode s pos).2), own⟩)) (K (.tup [.v (.bool false)]) H)
    | _ => False
  | _ => False
theorem nextS_sound {P : Program} {w0 : World} {fp H : HH} {w : World} (hh : HeapOk w0 fp H w) {it : AV} {K : AV → HH → Prop} (h : nextS H it K) (ty : TypeId) :
    ∃ v H' w', K v H' ∧ HeapOk w0 fp H' w' ∧ (Instr.next it.den true ty).run P w = .ok v.den w' := by
  unfold nextS at h
  split at h
  · rename_i id n
    split at h
    · rename_i m s pos own hb
      have g_ := ck_spec h
      clear h
      obtain ⟨rfl, rfl, h⟩ := g_
      rw [nth_eq] at hb
      have hc := hh.hp.all id _ hb
      simp only [Cont.holds] at hc
      have hlt := lt_of_some hc
      cases hp : Nat.blt pos s.size with
      | true =>
        rw [hp, br_true] at h
        have hp : pos < s.size := by simpa [Nat.blt_eq] using hp
        refine ⟨_, _, { w with heap := w.heap.setIfInBounds n (.stringIter s (pos + (Utf8.decode s pos).2)) }, h, ?_, ?_⟩
        · refine hh.turn hb rfl _ ?_ rfl rfl rfl (by simp) (fun q hq => ?_)
          · simp only [Cont.holds]; simp [hlt]
          · have : n ≠ q := fun e => hq e.symm
            simp [Array.getElem?_setIfInBounds, this]
        · simp [Instr.next, AV.den, denL, getObj, setObj, Sem.run, hc, hp, goInt]
      | false =>
        rw [hp, br_false] at h
        have hp : ¬ pos < s.size := by rw [← Nat.blt_eq, hp]; simp
        refine ⟨_, _, w, h, hh, ?_⟩
        simp [Instr.next, AV.den, denL, getObj, Sem.run, hc, hp]
    · exact h.elim
  · exact h.elim
def entryP (H : HH) (it : AV) (K : AV → Prop) : Prop :=
  match it with
  | .ptr id n 0 =>
    match nth H id with
    | some ⟨m, .itere mid mn since rseen, _⟩ =>
      (match nth H mid, rseen with
       | some ⟨mm, .mape _ ky vl _ es clock, _⟩, b :: _ => n = m ∧ mn = mm ∧ clock = since ∧ (∃ a, (a, b) ∈ es) ∧ ∀ a, (a, b) ∈ es → K (.tup [ky a, vl a])
       | _, _ => False)
    | _ => entryK H it K
  | it => entryK H it K
theorem entryP_sound {P : Program} {H : HH} {w : World} (hh : HoldsH H w) {it : AV} {K : AV → Prop} (h : entryP H it K) :
    ∃ v, K v ∧ (Instr.entry it.den).run P w = .ok v.den w := by
  unfold entryP at h
  split at h
  · rename_i id n
    split at h
    · rename_i m mid mn since rseen own hb
      split at h
      · rename_i mm α ky vl mk es clock ownm b rest hbm
        obtain ⟨rfl, rfl, rfl, ⟨a, hab⟩, h⟩ := h
        rw [nth_eq] at hb hbm
        have hc := hh.all id _ hb
        have hcm := hh.all mid _ hbm
        simp only [Cont.holds] at hc hcm
        obtain ⟨hcm, hnd, hlt', hlaw⟩ := hcm
        refine ⟨_, h a hab, ?_⟩
        have hs : (b :: rest).reverse.toArray = rest.reverse.toArray.push b := by simp
        rw [hs] at hc
        have := run_entry_at (P := P) w n mn clock rest.reverse.toArray (mapDs ky vl es) clock { key := (ky a).den, val := (vl a).den, born := b } hc hcm (by simp only [mapDs, List.mem_map]; exact ⟨(a, b), hab, rfl⟩) (by simpa [mapDs, Function.comp_def] using hnd)
        simpa [AV.den, denL] using this
      · exact h.elim
    · exact entryK_sound hh h
  · exact entryK_sound hh h
end Go.Eng
