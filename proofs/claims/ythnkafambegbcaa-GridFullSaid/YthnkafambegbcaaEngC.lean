import Derived.Test.YthnkafambegbcaaEngB
set_option linter.unusedSimpArgs false
namespace Go.Eng
open Go
theorem foldl_set_cells : ∀ (vs : List Value) (cs : Array Value) (off k : Nat), (vs.zipIdx k).foldl (fun cs (cj : Value × Nat) => cs.setIfInBounds (off + cj.2) cj.1) cs =
    (List.foldl (fun (a : List Value) (cj : Value × Nat) => a.set (off + cj.2) cj.1) cs.toList (vs.zipIdx k)).toArray
  | [], cs, off, k => by simp
  | v :: vs, cs, off, k => by
    simp only [List.zipIdx_cons, List.foldl_cons]
    rw [foldl_set_cells vs]
    simp
theorem splice_den : ∀ (xs l : List AV) (o k : Nat), List.foldl (fun (a : List Value) (cj : Value × Nat) => a.set (o + cj.2) cj.1) (denL l) ((denL xs).zipIdx k) = denL (splice l (o + k) xs)
  | [], l, o, k => by simp [denL, splice]
  | x :: xs, l, o, k => by
    simp only [denL, List.zipIdx_cons, List.foldl_cons, splice]
    have : (denL l).set (o + k) x.den = denL (l.set (o + k) x) := by simp [denL_map, List.map_set]
    rw [this, splice_den xs _ o (k + 1)]
    rfl
theorem one_or_agg {x : AV} (h1 : x.cells.all AV.one = true) : x.one = true ∨ ∃ l, x = .agg l := by
  cases x with
  | agg l => exact .inr ⟨l, rfl⟩
  | tup l => simp [AV.cells, AV.one] at h1
  | _ => left; simpa [AV.cells] using h1
theorem buildK_sound {tab : Tab} {fs : List (Nat × Nat)} (place : Nat → Option (Nat × Nat)) (hpl : ∀ f off ty ti, nth fs f = some (off, ty) → tab.get ty = some ti → place f = some (off, ti.sz)) :
    ∀ (parts : List (Nat × AV)) (z : List AV) (K : AV → Prop), pureK.buildK tab fs z parts K →
      ∃ l, K (.agg l) ∧ Instr.fill place (denL z).toArray (parts.map fun p => (p.1, p.2.den)) = some (denL l).toArray
  | [], z, K, h => ⟨z, h, rfl⟩
  | (i, v) :: rest, z, K, h => by
    simp only [pureK.buildK] at h
    split at h
    · rename_i off ty hf
      split at h
      · rename_i ti hti
        obtain ⟨h123, h4⟩ := ck_spec h
        simp only [Bool.and_eq_true] at h123
        obtain ⟨⟨h1, h2⟩, h3⟩ := h123
        have h1 := Nat.eq_of_beq_eq_true h1
        have h3 := Nat.le_of_ble_eq_true h3
        obtain ⟨l, hl, hfill⟩ := buildK_sound place hpl rest _ K h4
        refine ⟨l, hl, ?_⟩
        have hc := AV.cells_den (one_or_agg h2)
        have hsz : v.den.cells.size = ti.sz := by
          have : v.den.cells.toList.length = ti.sz := by rw [hc]; simpa using h1
          simpa using this
        simp only [List.map_cons, Instr.fill, hpl i off ty ti hf hti]
        have hb : (decide (v.den.cells.size ≠ ti.sz) || decide (off + v.den.cells.size > (denL z).toArray.size)) = false := by
          simp [hsz]; omega
        rw [if_neg (by simp [hsz]; omega)]
        have e : Array.foldl (fun cs (x : Value × Nat) => cs.setIfInBounds (off + x.2) x.1) (denL z).toArray v.den.cells.zipIdx = (denL (splice z off v.cells)).toArray := by
          rw [← Array.foldl_toList]
          have : v.den.cells.zipIdx.toList = (denL v.cells).zipIdx 0 := by
            rw [← hc]; simp
          rw [this, foldl_set_cells]
          have := splice_den v.cells z off 0
          simp only [Nat.add_zero] at this
          rw [← this]
        rw [← hfill]
        congr 1
      · exact h.elim
    · exact h.elim
theorem partsVals {a : Act} (parts : Array (Nat × Operand)) (vs : List AV) (h : (parts.toList.map (·.2)).map a.eval = denL vs) :
    (parts.map fun (i, x) => (i, a.eval x)).toList = ((parts.toList.map (·.1)).zip vs).map fun p => (p.1, p.2.den) := by
  obtain ⟨l⟩ := parts
  simp only [] at h
  simp only [List.map_toArray]
  induction l generalizing vs with
  | nil => simp
  | cons p l ih =>
    cases vs with
    | nil => simp [denL] at h
    | cons v vs =>
      simp only [List.map_cons, denL, List.cons.injEq] at h
      simp [h.1, ih vs h.2]
theorem run_mapM_ok {α β : Type} (P : Program) (w : World) (f : α → Sem β) (g : α → β) (xs : Array α) (h : ∀ x ∈ xs, (f x).run P w = .ok (g x) w) : (xs.mapM f).run P w = .ok (xs.map g) w := by
  obtain ⟨l⟩ := xs
  rw [Array.mapM_eq_mapM_toList]
  have : (l.mapM f).run P w = .ok (l.map g) w := by
    induction l with
    | nil => simp
    | cons x l ih =>
      rw [List.mapM_cons]
      simp only [Sem.run_bind, h x (by simp), Result.andThen_ok, ih (fun y hy => h y (by simp at hy ⊢; exact .inr hy)), Sem.run_pure, List.map_cons]
  simp [this]
section
variable {P : Program} {tab : Tab}
theorem run_fieldAt (ht : TabOk P tab) (w : World) {s : TypeId} {i : TI} {fs : List (Nat × Nat)} (hi : tab.get s = some i) (hd : i.d = .struct fs) {f off ty : Nat} (hf : nth fs f = some (off, ty)) {ti : TI} (hti : tab.get ty = some ti) (hz : ti.sz ≠ 0)
    (b o : Nat) : (Instr.fieldAt s (.pointer (some ⟨b, o, none⟩)) f).run P w = .ok (.pointer (some ⟨b, o + off, none⟩)) w := by
  have hdesc := (ht.get hi).desc
  rw [hd] at hdesc
  obtain ⟨hu, hfs, _⟩ := hdesc
  have hsz := (ht.get hti).run_sizeOf w
  rw [nth_eq, ← hfs] at hf
  simp only [List.getElem?_map, Option.map_eq_some_iff, Prod.mk.injEq] at hf
  obtain ⟨F, hF, rfl, rfl⟩ := hf
  have hF' : (P.fieldsOf s)[f]? = some F := by simpa using hF
  simp only [Instr.fieldAt, Sem.run_bind, run_underlying hu, Result.andThen_ok, hF', Instr.sureAddr, Sem.run_pure, fieldPlace, hsz, Sem.run_ite]
  rw [if_neg hz]
  simp only [Result.andThen_ok, Addr.add]
  split <;> simp_all
theorem run_field (ht : TabOk P tab) (w : World) {s : TypeId} {i : TI} {fs : List (Nat × Nat)} (hi : tab.get s = some i) (hd : i.d = .struct fs) {f off ty : Nat} (hf : nth fs f = some (off, ty)) {l : List AV} {v : AV} (hv : partAV tab ty l off = some v) :
    (Instr.field s (AV.agg l).den f).run P w = .ok v.den w := by
  have hdesc := (ht.get hi).desc
  rw [hd] at hdesc
  obtain ⟨hu, hfs, _⟩ := hdesc
  rw [nth_eq, ← hfs] at hf
  simp only [List.getElem?_map, Option.map_eq_some_iff, Prod.mk.injEq] at hf
  obtain ⟨F, hF, rfl, rfl⟩ := hf
  have hF' : (P.fieldsOf s)[f]? = some F := by simpa using hF
  simp only [Instr.field, Sem.run_bind, run_underlying hu, Result.andThen_ok, hF', asAgg, AV.den, Sem.run_pure, run_partAV ht hv]
theorem nilOf_sound {P : Program} {t : Nat} {d : TD} (hd : DescOk P t d) {x y : Operand} {p : AV} {a : Act} {b : Bool} (h : nilOf d y p = some b) :
    (∀ w, (Op.equal t p.den (a.eval y)).run P w = .ok b w) ∧ (∀ op, eqGuard op t x y p.den (a.eval y) = pure ()) := by
  have key : ∀ {u v : Value} {c : Bool}, (∀ n w, (Op.equalIn (n + 1) t u v).run P w = .ok c w) → ∀ w, (Op.equal t u v).run P w = .ok c w := fun h w => h 9999 w
  unfold nilOf at h
  split at h <;> first
    | (cases h; done)
    | (cases h
       obtain ⟨ms, hu⟩ := iface_desc hd
       refine ⟨key fun n w => ?_, fun op => ?_⟩
       · simp only [AV.den, Act.eval, Op.equalIn, Sem.run_bind, run_underlying hu, Result.andThen_ok, Sem.run_pure]
       · cases op <;> cases x <;> rfl)
    | (cases h
       simp only [DescOk] at hd
       refine ⟨key fun n w => ?_, fun op => ?_⟩
       · simp only [AV.den, Act.eval, Op.equalIn, Sem.run_bind, run_underlying hd, Result.andThen_ok, Sem.run_pure, Option.isNone]
       · cases op <;> rfl)
    | (rename_i pq
       simp only [DescOk] at hd
       cases pq <;>
       (cases h
        refine ⟨key fun n w => ?_, fun op => ?_⟩
        · simp only [AV.den, Act.eval, Op.equalIn, Sem.run_bind, run_underlying hd, Result.andThen_ok, Sem.run_pure, Option.isNone]
        · cases op <;> rfl))
theorem binOp_eql {P : Program} {w : World} {t : Nat} {d : TD} {op : BinOp} (ho : op = .eql ∨ op = .neq) {y : Operand} {p : AV} {a : Act} {b : Bool} (h : nilOf d y p = some b) (he : (Op.equal t p.den (a.eval y)).run P w = .ok b w) :
    (binOp op t p.den (a.eval y)).run P w = .ok (.bool (if op = .eql then b else !b)) w := by
  unfold nilOf at h
  split at h <;> first
    | (cases h; done)
    | (simp only [AV.den, Act.eval] at he
       rcases ho with rfl | rfl <;> simp [AV.den, Act.eval, binOp, he])
theorem addr_addC (n o i : Nat) : (⟨n, o, none⟩ : Addr).add i = ⟨n, o + i, none⟩ := by
  unfold Addr.add; split <;> simp_all
theorem evalI_sound {T : TT} {a : Act} (hm : Matches T a.tmps) {x : Option Operand} {K : Option Int → Prop} (h : evalI T x K) : ∃ (k : IntKind) (i : Option Int), x.map a.eval = i.map (Value.int k) ∧ K i := by
  unfold evalI at h
  split at h
  · exact ⟨.i64, none, rfl, h⟩
  · obtain ⟨v, hv, h⟩ := evalK_sound hm h
    split at h
    · rename_i k i
      exact ⟨k, some i, by simp [hv, AV.den], h⟩
    · exact h.elim
theorem boundsK_sound {isS : Bool} {len cap : Nat} {l h m : Option Int} {K : Nat → Nat → Nat → Prop} (hh : boundsK len cap l h m K) :
    ∃ x y z, K x y z ∧ (x = 0 ∨ y ≤ z) ∧ ∀ (k1 k2 k3 : IntKind) (w : World), (Instr.sliceBounds isS len cap (l.map (Value.int k1)) (h.map (Value.int k2)) (m.map (Value.int k3))).run P w = .ok (x, y, z) w := by
  unfold boundsK at hh
  split at hh
  · split at hh
    · split at hh
      · exact ⟨_, _, _, hh, .inl rfl, fun k1 k2 k3 w => by simp [Instr.sliceBounds]⟩
      · obtain ⟨⟨h1, h2⟩, h3, hk⟩ := hh
        exact ⟨_, _, _, hk, .inr h3, fun k1 k2 k3 w => by simp [Instr.sliceBounds, run_sliceBound, h1, h2]⟩
    · rename_i b
      obtain ⟨⟨h1, h2⟩, hk⟩ := hh
      have eb : (b.toNat : Int) = b := Int.toNat_of_nonneg h1
      split at hk
      · exact ⟨_, _, _, hk, .inl rfl, fun k1 k2 k3 w => by simp [Instr.sliceBounds, run_sliceBound, h1, h2]⟩
      · obtain ⟨⟨h3, h4⟩, hk⟩ := hk
        exact ⟨_, _, _, hk, .inr (by omega), fun k1 k2 k3 w => by simp [Instr.sliceBounds, run_sliceBound, h1, h2, h3, h4, eb]⟩
  · rename_i c
    split at hh
    · exact hh.elim
    · rename_i b
      obtain ⟨⟨g1, g2⟩, ⟨h1, h2⟩, hk⟩ := hh
      have ec : (c.toNat : Int) = c := Int.toNat_of_nonneg g1
      have eb : (b.toNat : Int) = b := Int.toNat_of_nonneg h1
      split at hk
      · exact ⟨_, _, _, hk, .inl rfl, fun k1 k2 k3 w => by simp [Instr.sliceBounds, run_sliceBound, g1, g2, h1, h2, ec]⟩
      · obtain ⟨⟨h3, h4⟩, hk⟩ := hk
        exact ⟨_, _, _, hk, .inr (by omega), fun k1 k2 k3 w => by simp [Instr.sliceBounds, run_sliceBound, g1, g2, h1, h2, h3, h4, eb, ec]⟩
theorem boundsK_zero {len cap : Nat} {l h : Option Int} {Q : Prop} (hh : boundsK len cap l h (some 0) fun _ _ _ => Q) : boundsK len cap l h (some 0) fun x y z => Q ∧ x = 0 ∧ y = 0 ∧ z = 0 := by
  unfold boundsK at hh ⊢
  cases h with
  | none => exact hh.elim
  | some b =>
    obtain ⟨h1, ⟨h2, h3⟩, hk⟩ := hh
    refine ⟨h1, ⟨h2, h3⟩, ?_⟩
    cases l with
    | none => exact ⟨hk, rfl, by omega, rfl⟩
    | some a => obtain ⟨⟨g1, g2⟩, hk⟩ := hk; exact ⟨⟨g1, g2⟩, hk, by omega, by omega, rfl⟩
theorem pureB_sound (ht : TabOk P tab) {b : Builtin} {vs : List AV} {at_ : Array TypeId} {K : AV → Prop} (h : pureB tab b at_.toList vs K) (ty : TypeId) :
    ∃ v, K v ∧ ∀ w cs, (builtin b at_ ty cs (denL vs).toArray).run P w = .ok (.value v.den) w := by
  unfold pureB at h
  split at h
  · split at h
    · rename_i t hat
      have h1 : at_[0]? = some t := by
        rw [← Array.getElem?_toList, hat]; rfl
      unfold lenK at h
      split at h
      · rename_i s hi
        have hd := (ht.get hi).desc
        simp only [DescOk] at hd
        exact ⟨_, h, fun w cs => by simp [builtin, Builtin.len_, h1, denL, AV.den, run_underlying hd, goInt]⟩
      · rename_i n c hi
        have hd := (ht.get hi).desc
        simp only [DescOk] at hd
        exact ⟨_, h, fun w cs => by simp [builtin, Builtin.len_, h1, denL, AV.den, run_underlying hd, goInt]⟩
      · rename_i n c hi
        have hd := (ht.get hi).desc
        simp only [DescOk] at hd
        exact ⟨_, h, fun w cs => by simp [builtin, Builtin.len_, h1, denL, AV.den, run_underlying hd, goInt]⟩
      · rename_i n c hi
        have hd := (ht.get hi).desc
        simp only [DescOk] at hd
        exact ⟨_, h, fun w cs => by simp [builtin, Builtin.len_, h1, denL, AV.den, run_underlying hd, goInt]⟩
      · rename_i n c hi
        have hd := (ht.get hi).desc
        simp only [DescOk] at hd
        exact ⟨_, h, fun w cs => by simp [builtin, Builtin.len_, h1, denL, AV.den, run_underlying hd, goInt]⟩
      · rename_i n e x hi
        have hd := (ht.get hi).desc
        simp only [DescOk] at hd
        exact ⟨_, h, fun w cs => by simp [builtin, Builtin.len_, h1, denL, AV.den, run_underlying hd, goInt]⟩
      · exact h.elim
    · exact h.elim
  · split at h
    · exact ⟨_, h, fun w cs => by simp [builtin, Builtin.min_, Builtin.min2, denL, AV.den]⟩
    · exact ⟨_, h, fun w cs => by simp [builtin, Builtin.min_, Builtin.min2, denL, AV.den]⟩
    · exact h.elim
  · split at h
    · exact ⟨_, h, fun w cs => by simp [builtin, Builtin.max_, Builtin.max2, denL, AV.den]⟩
    · exact ⟨_, h, fun w cs => by simp [builtin, Builtin.max_, Builtin.max2, denL, AV.den]⟩
    · exact h.elim
  · split at h
    · rename_i t hat
      have h1 : at_[0]? = some t := by
        rw [← Array.getElem?_toList, hat]; rfl
      split at h
      · rename_i c hi
        have hd := (ht.get hi).desc
        simp only [DescOk] at hd
        exact ⟨_, h, fun w cs => by simp [builtin, Builtin.cap_, h1, denL, AV.den, run_underlying hd, goInt]⟩
      · rename_i c hi
        have hd := (ht.get hi).desc
        simp only [DescOk] at hd
        exact ⟨_, h, fun w cs => by simp [builtin, Builtin.cap_, h1, denL, AV.den, run_underlying hd, goInt]⟩
      · rename_i c hi
        have hd := (ht.get hi).desc
        simp only [DescOk] at hd
        exact ⟨_, h, fun w cs => by simp [builtin, Builtin.cap_, h1, denL, AV.den, run_underlying hd, goInt]⟩
      · rename_i c hi
        have hd := (ht.get hi).desc
        simp only [DescOk] at hd
        exact ⟨_, h, fun w cs => by simp [builtin, Builtin.cap_, h1, denL, AV.den, run_underlying hd, goInt]⟩
      · exact h.elim
    · exact h.elim
  · exact h.elim
theorem fillK_sound {sz : Nat} : ∀ (parts : List (Nat × AV)) (z : List AV) (K : List AV → Prop), fillK sz z parts K →
    ∃ l, K l ∧ Instr.fill (fun i => some (i * sz, sz)) (denL z).toArray (parts.map fun p => (p.1, p.2.den)) = some (denL l).toArray
  | [], z, K, h => ⟨z, h, rfl⟩
  | (i, v) :: rest, z, K, h => by
    simp only [fillK] at h
    obtain ⟨h123, h4⟩ := ck_spec h
    simp only [Bool.and_eq_true] at h123
    obtain ⟨⟨h1, h2⟩, h3⟩ := h123
    have h1 := Nat.eq_of_beq_eq_true h1
    have h3 := Nat.le_of_ble_eq_true h3
    obtain ⟨l, hl, hfill⟩ := fillK_sound rest _ K h4
    refine ⟨l, hl, ?_⟩
    have hc := AV.cells_den (one_or_agg h2)
    have hsz : v.den.cells.size = sz := by
      have : v.den.cells.toList.length = sz := by rw [hc]; simpa using h1
      simpa using this
    simp only [List.map_cons, Instr.fill]
    rw [if_neg (by simp [hsz]; omega)]
    have e : Array.foldl (fun cs (x : Value × Nat) => cs.setIfInBounds (i * sz + x.2) x.1) (denL z).toArray v.den.cells.zipIdx = (denL (splice z (i * sz) v.cells)).toArray := by
      rw [← Array.foldl_toList]
      have : v.den.cells.zipIdx.toList = (denL v.cells).zipIdx 0 := by
        rw [← hc]; simp
      rw [this, foldl_set_cells]
      have := splice_den v.cells z (i * sz) 0
      simp only [Nat.add_zero] at this
      rw [← this]
    rw [← hfill]
    congr 1
theorem notIface_spec {t : Nat} {d : TD} (hd : DescOk P t d) (h : notIface d = true) : ∃ x, P.underlying t = some x ∧ ∀ ms, x ≠ .interface ms := by
  cases d <;> simp [notIface] at h <;> simp only [DescOk] at hd
  case struct fs => exact ⟨_, hd.1, fun _ => by simp⟩
  all_goals exact ⟨_, hd, fun _ => by simp⟩
theorem pureK_sound (ht : TabOk P tab) {T : TT} {a : Act} (hm : Matches T a.tmps) {o : Oper} {K : AV → Prop} (h : pureK tab T o.op K) :
    ∃ v, K v ∧ ∀ w, (execOp a.eval o).run P w = .ok (.value v.den) w := by
  unfold pureK at h
  split at h
  · rename_i x ho
    obtain ⟨v, hv, h⟩ := evalK_sound hm h
    exact ⟨v, h, fun w => by simp [execOp, ho, hv]⟩
  · rename_i x ho
    obtain ⟨v, hv, h⟩ := evalK_sound hm h
    exact ⟨v, h, fun w => by simp [execOp, ho, hv]⟩
  · rename_i s x f ho
    obtain ⟨p, hp, h⟩ := evalK_sound hm h
    split at h
    · rename_i fs e hs
      split at h
      · rename_i off ty hf
        split at h
        · rename_i ti hti
          have g_ := ck_spec h
          clear h
          obtain ⟨hz, h⟩ := g_
          have hz : ti.sz ≠ 0 := by intro e; rw [e] at hz; cases hz
          split at h
          · rename_i id n o'
            refine ⟨_, h, fun w => ?_⟩
            have := run_fieldAt ht w hs rfl hf hti hz n o'
            simp [execOp, ho, hp, AV.den, this]
          · rename_i id n r sz j
            refine ⟨_, h, fun w => ?_⟩
            have := run_fieldAt ht w hs rfl hf hti hz n (r * sz + j)
            simp [execOp, ho, hp, AV.den, this, Nat.add_assoc]
          · rename_i id n o' r sz j
            refine ⟨_, h, fun w => ?_⟩
            have := run_fieldAt ht w hs rfl hf hti hz n (o' + r * sz + j)
            simp only [Nat.add_assoc] at this
            simp [execOp, ho, hp, AV.den, this, Nat.add_assoc]
          · rename_i id n o' c
            refine ⟨_, h, fun w => ?_⟩
            have := run_fieldAt ht w hs rfl hf hti hz n o'
            simp [execOp, ho, hp, AV.den, this]
          · exact h.elim
        · exact h.elim
      · exact h.elim
    · exact h.elim
  · rename_i t x f ho
    obtain ⟨p, hp, h⟩ := evalK_sound hm h
    split at h
    · rename_i fs e l hs
      split at h
      · rename_i off ty hf
        split at h
        · rename_i v hv
          refine ⟨_, h, fun w => ?_⟩
          have := run_field ht w hs rfl hf hv
          simp [execOp, ho, hp, this]
        · exact h.elim
      · exact h.elim
    · exact h.elim
  · rename_i t x ho
    obtain ⟨p, hp, h⟩ := evalK_sound hm h
    split at h
    · rename_i i hi
      have g_ := ck_spec h
      clear h
      obtain ⟨hni, h⟩ := g_
      obtain ⟨d, hu, hne⟩ := notIface_spec (ht.get hi).desc hni
      refine ⟨_, h, fun w => ?_⟩
      simp only [execOp, ho, hp, AV.den, Instr.makeInterface, Sem.run_bind, run_underlying hu, Result.andThen_ok]
      cases d <;> first | exact absurd rfl (hne _) | simp
    · exact h.elim
  · rename_i x xt t ok ho
    obtain ⟨p, hp, h1⟩ := evalK_sound hm h
    clear h
    have h := h1
    clear h1
    split at h
    · rename_i i hi
      have g_ := ck_spec h
      clear h
      obtain ⟨hni, h⟩ := g_
      obtain ⟨d, hu, hne⟩ := notIface_spec (ht.get hi).desc hni
      have hz := fun w => (ht.get hi).run_zero w
      split at h
      · rename_i u y
        split at h
        · rename_i hut
          have hut := Nat.eq_of_beq_eq_true hut
          subst hut
          refine ⟨_, h, fun w => ?_⟩
          simp only [execOp, ho, hp, AV.den, denL, Instr.typeAssert, Sem.run_bind, run_underlying hu, Result.andThen_ok]
          cases d <;> first | exact absurd rfl (hne _) | simp
        · rename_i hut
          have hut : u ≠ t := fun e => by rw [e, Nat.beq_refl] at hut; cases hut
          refine ⟨_, h, fun w => ?_⟩
          simp only [execOp, ho, hp, AV.den, denL, Instr.typeAssert, Sem.run_bind, run_underlying hu, Result.andThen_ok]
          cases d <;> first | exact absurd rfl (hne _) | simp [hut, hz]
        · rename_i hut
          have hut := Nat.eq_of_beq_eq_true hut
          subst hut
          refine ⟨_, h, fun w => ?_⟩
          simp only [execOp, ho, hp, AV.den, denL, Instr.typeAssert, Sem.run_bind, run_underlying hu, Result.andThen_ok]
          cases d <;> first | exact absurd rfl (hne _) | simp
        · exact h.elim
      · split at h
        · refine ⟨_, h, fun w => ?_⟩
          simp only [execOp, ho, hp, AV.den, denL, Instr.typeAssert, Sem.run_bind, run_underlying hu, Result.andThen_ok]
          cases d <;> first | exact absurd rfl (hne _) | simp [hz]
        · exact h.elim
      · exact h.elim
    · exact h.elim
  · rename_i x ix ho
    obtain ⟨p, hp, h⟩ := evalK_sound hm h
    split at h
    · rename_i l
      split at h
      · rename_i v hv
        rw [nth_eq] at hv
        exact ⟨_, h, fun w => by simp [execOp, ho, hp, AV.den, Instr.extract, denL_get hv]⟩
      · exact h.elim
    · exact h.elim
  · rename_i op t x y yt ho
    obtain ⟨p, hp, h1⟩ := evalK_sound hm h
    clear h
    split at h1
    · split at h1
      · rename_i i hti
        have hd := (ht.get hti).desc
        have hk : ∀ b, nilOf i.d y p = some b → (∀ w, (Op.equal t p.den (a.eval y)).run P w = .ok b w) ∧ (∀ op, eqGuard op t x y p.den (a.eval y) = pure ()) := fun b hb => nilOf_sound hd hb
        split at h1
        · rename_i b hb
          obtain ⟨e1, e2⟩ := hk b hb
          refine ⟨_, h1, fun w => ?_⟩
          have e3 := binOp_eql (P := P) (w := w) (op := .eql) (.inl rfl) hb (e1 w)
          simp only [execOp, ho, hp, e2, Sem.run_bind, Sem.run_pure, Result.andThen_ok]
          simp [e3, AV.den]
        · rename_i b hb
          obtain ⟨e1, e2⟩ := hk b hb
          refine ⟨_, h1, fun w => ?_⟩
          have e3 := binOp_eql (P := P) (w := w) (op := .neq) (.inr rfl) hb (e1 w)
          simp only [execOp, ho, hp, e2, Sem.run_bind, Sem.run_pure, Result.andThen_ok]
          simp [e3, AV.den]
        · exact h1.elim
      · exact h1.elim
    · obtain ⟨q, hq, h⟩ := evalK_sound hm h1
      obtain ⟨v, hv, hr⟩ := binK_sound ht h x y
      refine ⟨v, hv, fun w => ?_⟩
      have := hr w
      simp only [execOp, ho, hp, hq, Sem.run_bind] at this ⊢
      simp [this]
  · rename_i t x ho
    obtain ⟨p, hp, h⟩ := evalK_sound hm h
    split at h
    · exact ⟨_, h, fun w => by simp [execOp, ho, hp, AV.den, Op.unary]⟩
    · exact h.elim
  · rename_i t x ho
    obtain ⟨p, hp, h⟩ := evalK_sound hm h
    split at h
    · exact ⟨_, h, fun w => by simp [execOp, ho, hp, AV.den, Op.unary, Op.intArith]⟩
    · exact h.elim
  · rename_i x ho
    obtain ⟨p, hp, h⟩ := evalK_sound hm h
    split at h
    · exact ⟨_, h, fun w => by simp [execOp, ho, hp, AV.den]⟩
    · exact ⟨_, h, fun w => by simp [execOp, ho, hp, AV.den]⟩
    · exact ⟨_, h, fun w => by simp [execOp, ho, hp, AV.den]⟩
    · exact ⟨_, h, fun w => by simp [execOp, ho, hp, AV.den]⟩
    · exact ⟨_, h, fun w => by simp [execOp, ho, hp, AV.den]⟩
    · exact ⟨_, h, fun w => by simp [execOp, ho, hp, AV.den]⟩
    · exact h.elim
  · rename_i f first cap ho
    obtain ⟨a1, h1, h⟩ := evalL_sound hm h
    obtain ⟨a2, h2, h⟩ := evalL_sound hm h
    refine ⟨_, h, fun w => ?_⟩
    have e1 : first.map a.eval = (denL a1).toArray := by apply Array.ext'; rw [Array.toList_map, h1]
    have e2 : cap.map a.eval = (denL a2).toArray := by apply Array.ext'; rw [Array.toList_map, h2]
    simp [execOp, ho, AV.den, Instr.makeFunc, e1, e2]
  · rename_i s d x ho
    obtain ⟨p, hp, h⟩ := evalK_sound hm h
    split at h
    · rename_i k1 e1 k2 e2 k n hs hd
      have h1 := (ht.get hs).desc
      have h2 := (ht.get hd).desc
      simp only [DescOk] at h1 h2
      exact ⟨_, h, fun w => by simp [execOp, ho, hp, AV.den, convert, run_underlying h1, run_underlying h2, Conv.intToInt]⟩
    · rename_i b hs hd
      have h1 := (ht.get hs).desc
      have h2 := (ht.get hd).desc
      simp only [DescOk] at h1 h2
      exact ⟨_, h, fun w => by simp [execOp, ho, hp, AV.den, convert, run_underlying h1, run_underlying h2]⟩
    · rename_i _ k n hs hd
      have h1 := (ht.get hs).desc
      have h2 := (ht.get hd).desc
      simp only [DescOk] at h1 h2
      exact ⟨_, h, fun w => by simp [execOp, ho, hp, AV.den, convert, run_underlying h1, run_underlying h2, Conv.intToString]⟩
    · rename_i e _ l c hs hd
      have h1 := (ht.get hs).desc
      have h2 := (ht.get hd).desc
      simp only [DescOk] at h1 h2
      split at h
      · rename_i he
        have h3 := (ht.get he).desc
        simp only [DescOk] at h3
        exact ⟨_, h, fun w => by
          simp only [execOp, ho, hp, AV.den, Sem.run_bind, run_convert_bytes_string w _ _ _ none l c h1 h3 h2, Conv.bytesToString, Sem.run_pure, Result.andThen_ok]
          rfl⟩
      · exact h.elim
    · exact h.elim
  · rename_i t x lo hi mx ho
    obtain ⟨p, hp, g1⟩ := evalK_sound hm h
    clear h
    obtain ⟨k1, l, hl, g2⟩ := evalI_sound hm g1
    clear g1
    obtain ⟨k2, hi', hh', g3⟩ := evalI_sound hm g2
    clear g2
    obtain ⟨k3, m, hm', h⟩ := evalI_sound hm g3
    clear g3
    split at h
    · rename_i s hs
      have h1 := (ht.get hs).desc
      simp only [DescOk] at h1
      split at h
      · obtain ⟨x', y', z', hk, hxy, hr⟩ := boundsK_sound (P := P) (isS := false) h
        refine ⟨_, hk, fun w => ?_⟩
        have := hr k1 k2 k3 w
        simp only [Option.map_none] at this hm'
        simp [execOp, ho, hp, AV.den, Instr.sliceAt, Instr.slice, run_underlying h1, hl, hh', hm', this, subS_eq]
      · exact h.elim
    · rename_i e _ id n r sz len cap hs
      have h1 := (ht.get hs).desc
      simp only [DescOk] at h1
      split at h
      · rename_i ei hei
        have g_ := ck_spec h
        clear h
        obtain ⟨hbq, h⟩ := g_
        obtain rfl := Nat.eq_of_beq_eq_true hbq
        obtain ⟨x', y', z', hk, hxy, hr⟩ := boundsK_sound (P := P) (isS := true) h
        refine ⟨_, hk, fun w => ?_⟩
        have := hr k1 k2 k3 w
        have hsz := (ht.get hei).run_sizeOf w
        simp only [execOp, ho, hp, AV.den, Instr.sliceAt, Instr.slice, Sem.run_bind, run_underlying h1, Result.andThen_ok, hl, hh', hm', this, hsz, Sem.run_pure, offB_eq hxy, offN]
        split <;> simp_all [addr_addC, Nat.add_mul]
      · exact h.elim
    · rename_i e _ id n o' r sz len cap hs
      have h1 := (ht.get hs).desc
      simp only [DescOk] at h1
      split at h
      · rename_i ei hei
        have g_ := ck_spec h
        clear h
        obtain ⟨hbq, h⟩ := g_
        obtain rfl := Nat.eq_of_beq_eq_true hbq
        obtain ⟨x', y', z', hk, hxy, hr⟩ := boundsK_sound (P := P) (isS := true) h
        refine ⟨_, hk, fun w => ?_⟩
        have := hr k1 k2 k3 w
        have hsz := (ht.get hei).run_sizeOf w
        simp only [execOp, ho, hp, AV.den, Instr.sliceAt, Instr.slice, Sem.run_bind, run_underlying h1, Result.andThen_ok, hl, hh', hm', this, hsz, Sem.run_pure, offB_eq hxy, offN]
        split <;> simp_all [addr_addC, Nat.add_mul, Nat.add_assoc]
      · exact h.elim
    · rename_i e _ id a0 n o' r sz len cap hs
      have h1 := (ht.get hs).desc
      simp only [DescOk] at h1
      split at h
      · rename_i ei hei
        have g_ := ck_spec h
        clear h
        obtain ⟨hbq, h⟩ := g_
        obtain rfl := Nat.eq_of_beq_eq_true hbq
        split at h
        · rename_i hz0
          have hm0 : m = some 0 := by
            unfold zeroC at hz0
            split at hz0
            · cases m with
              | none => simp at hm'
              | some m0 =>
                simp only [Option.map_some, Option.some.injEq] at hm'
                cases hm'
                rfl
            · cases hz0
          subst hm0
          obtain ⟨x', y', z', ⟨hk, rfl, rfl, rfl⟩, hxy, hr⟩ := boundsK_sound (P := P) (isS := true) (boundsK_zero h)
          refine ⟨_, hk (if len = 0 then a0 else some ⟨n, o' + r * ei.sz, none⟩), fun w => ?_⟩
          have := hr k1 k2 k3 w
          have hsz := (ht.get hei).run_sizeOf w
          simp only [execOp, ho, hp, AV.den, Instr.sliceAt, Instr.slice, Sem.run_bind, run_underlying h1, Result.andThen_ok, hl, hh', hm', this, hsz, Sem.run_pure]
          simp
        obtain ⟨x', y', z', ⟨hyl, hk⟩, hxy, hr⟩ := boundsK_sound (P := P) (isS := true) h
        refine ⟨_, hk (if z' = x' then (if len = 0 then a0 else some ⟨n, o' + r * ei.sz, none⟩) else (if len = 0 then a0 else some ⟨n, o' + r * ei.sz, none⟩).map (·.add (x' * ei.sz))) (fun hx hl0 => by subst hx; rw [if_neg (by omega : ¬ len = 0)]; split <;> simp [addr_addC]), fun w => ?_⟩
        have := hr k1 k2 k3 w
        have hsz := (ht.get hei).run_sizeOf w
        simp only [execOp, ho, hp, AV.den, Instr.sliceAt, Instr.slice, Sem.run_bind, run_underlying h1, Result.andThen_ok, hl, hh', hm', this, hsz, Sem.run_pure]
        by_cases hy : y' - x' = 0
        · rw [if_pos hy]
        · rw [if_neg hy, if_neg (by omega : ¬ len = 0)]
          rcases hxy with hx | hx
          · subst hx; split <;> simp [addr_addC]
          · rw [if_neg (by omega)]; simp [addr_addC, Nat.add_mul, Nat.add_assoc]
      · exact h.elim
    · rename_i e _ len cap hs
      have h1 := (ht.get hs).desc
      simp only [DescOk] at h1
      split at h
      · rename_i ei hei
        obtain ⟨x', y', z', hk, hxy, hr⟩ := boundsK_sound (P := P) (isS := true) h
        refine ⟨_, hk, fun w => ?_⟩
        have := hr k1 k2 k3 w
        have hsz := (ht.get hei).run_sizeOf w
        simp [execOp, ho, hp, AV.den, Instr.sliceAt, Instr.slice, run_underlying h1, hl, hh', hm', this, hsz]
      · exact h.elim
    · rename_i e _ ad cap hs
      have h1 := (ht.get hs).desc
      simp only [DescOk] at h1
      split at h
      · rename_i ei hei
        obtain ⟨x', y', z', ⟨hx0, hk⟩, hxy, hr⟩ := boundsK_sound (P := P) (isS := true) h
        subst hx0
        refine ⟨_, hk, fun w => ?_⟩
        have := hr k1 k2 k3 w
        have hsz := (ht.get hei).run_sizeOf w
        simp only [execOp, ho, hp, AV.den, Instr.sliceAt, Instr.slice, Sem.run_bind, run_underlying h1, Result.andThen_ok, hl, hh', hm', this, hsz, Sem.run_pure]
        split <;> simp_all [Addr.add]
      · exact h.elim
    · rename_i nn e _ id n hs
      have h1 := (ht.get hs).desc
      simp only [DescOk] at h1
      split at h
      · rename_i ei hei
        obtain ⟨x', y', z', hk, hxy, hr⟩ := boundsK_sound (P := P) (isS := false) h
        refine ⟨_, hk, fun w => ?_⟩
        have := hr k1 k2 k3 w
        have hsz := (ht.get hei).run_sizeOf w
        simp only [execOp, ho, hp, AV.den, Instr.sliceAt, Sem.run_bind, run_underlying h1, Result.andThen_ok, hl, hh', hm', this, hsz, Sem.run_pure, offB_eq hxy, offN, Instr.sureAddr]
        split <;> simp_all [addr_addC]
      · exact h.elim
    · exact h.elim
  · rename_i t x ix ho
    obtain ⟨p, hp, h⟩ := evalK_sound hm h
    obtain ⟨q, hq, g⟩ := evalK_sound hm h
    clear h
    split at g
    · rename_i s k i hs
      have h1 := (ht.get hs).desc
      simp only [DescOk] at h1
      obtain ⟨⟨h0, hlt⟩, g⟩ := g
      refine ⟨_, g, fun w => ?_⟩
      have hl : i.toNat < s.size := by omega
      have hg : s[i.toNat]? = some (s[i.toNat]'hl) := by simp [hl]
      have hb : byteAt s i.toNat = ((s[i.toNat]'hl).toNat : Int) := by
        unfold byteAt
        have : s.data.toList[i.toNat]? = some (s[i.toNat]'hl) := by
          rw [Array.getElem?_toList]
          exact Array.getElem?_eq_getElem hl
        rw [this]; rfl
      simp [execOp, ho, hp, hq, AV.den, Instr.index, asIntOf, run_underlying h1, h0, hg, hb]
    · rename_i n e _ l k i hs
      have h1 := (ht.get hs).desc
      simp only [DescOk] at h1
      split at g
      · rename_i ei hei
        obtain ⟨⟨h0, hlt⟩, g⟩ := g
        split at g
        · rename_i v hv
          refine ⟨_, g, fun w => ?_⟩
          have hpart := run_partAV ht hv w
          have hsz := (ht.get hei).run_sizeOf w
          simp [execOp, ho, hp, hq, AV.den, Instr.index, asIntOf, run_underlying h1, h0, hlt, hsz, hpart]
        · exact g.elim
      · exact g.elim
    · exact g.elim
  · rename_i t x ix ho
    obtain ⟨p, hp, h⟩ := evalK_sound hm h
    obtain ⟨q, hq, g⟩ := evalK_sound hm h
    clear h
    split at g
    · rename_i e _ id n r sz len cap k i hs
      have h1 := (ht.get hs).desc
      simp only [DescOk] at h1
      split at g
      · rename_i ei hei
        have g_ := ck_spec g
        clear g
        obtain ⟨hbq, ⟨h0, hlt⟩, g⟩ := g_
        obtain rfl := Nat.eq_of_beq_eq_true hbq
        refine ⟨_, g, fun w => ?_⟩
        have hsz := (ht.get hei).run_sizeOf w
        simp only [execOp, ho, hp, hq, AV.den, Instr.indexAt, asIntOf, Sem.run_bind, Sem.run_pure, Result.andThen_ok, run_underlying h1, Sem.run_ite]
        rw [if_pos ⟨h0, hlt⟩]
        simp only [Sem.run_bind, hsz, Result.andThen_ok, Sem.run_pure, Addr.add]
        split <;> simp_all [Nat.add_mul]
      · exact g.elim
    · rename_i e _ id n o' r sz len cap k i hs
      have h1 := (ht.get hs).desc
      simp only [DescOk] at h1
      split at g
      · rename_i ei hei
        have g_ := ck_spec g
        clear g
        obtain ⟨hbq, ⟨h0, hlt⟩, g⟩ := g_
        obtain rfl := Nat.eq_of_beq_eq_true hbq
        refine ⟨_, g, fun w => ?_⟩
        have hsz := (ht.get hei).run_sizeOf w
        simp only [execOp, ho, hp, hq, AV.den, Instr.indexAt, asIntOf, Sem.run_bind, Sem.run_pure, Result.andThen_ok, run_underlying h1, Sem.run_ite]
        rw [if_pos ⟨h0, hlt⟩]
        simp only [Sem.run_bind, hsz, Result.andThen_ok, Sem.run_pure, Addr.add]
        split <;> simp_all [Nat.add_mul, Nat.add_assoc]
      · exact g.elim
    · rename_i e _ id a0 n o' r sz len cap k i hs
      have h1 := (ht.get hs).desc
      simp only [DescOk] at h1
      split at g
      · rename_i ei hei
        have g_ := ck_spec g
        clear g
        obtain ⟨hbq, ⟨h0, hlt⟩, g⟩ := g_
        obtain rfl := Nat.eq_of_beq_eq_true hbq
        refine ⟨_, g, fun w => ?_⟩
        have hsz := (ht.get hei).run_sizeOf w
        have hne : ¬ len = 0 := by omega
        simp only [execOp, ho, hp, hq, AV.den, if_neg hne, Instr.indexAt, asIntOf, Sem.run_bind, Sem.run_pure, Result.andThen_ok, run_underlying h1, Sem.run_ite]
        rw [if_pos ⟨h0, hlt⟩]
        simp only [Sem.run_bind, hsz, Result.andThen_ok, Sem.run_pure, Addr.add]
        split <;> simp_all [Nat.add_mul, Nat.add_assoc]
      · exact g.elim
    · rename_i len e _ id n o' k i hs
      have h1 := (ht.get hs).desc
      simp only [DescOk] at h1
      split at g
      · rename_i ei hei
        obtain ⟨⟨h0, hlt⟩, g⟩ := g
        refine ⟨_, g, fun w => ?_⟩
        have hsz := (ht.get hei).run_sizeOf w
        simp only [execOp, ho, hp, hq, AV.den, Instr.indexAt, asIntOf, Sem.run_bind, Sem.run_pure, Result.andThen_ok, run_underlying h1, Sem.run_ite, Instr.sureAddr]
        rw [if_pos ⟨h0, hlt⟩]
        simp only [Sem.run_bind, hsz, Result.andThen_ok, Sem.run_pure, Addr.add]
        split <;> simp_all
      · exact g.elim
    · rename_i len e _ id n r k i hs
      have h1 := (ht.get hs).desc
      simp only [DescOk] at h1
      split at g
      · rename_i ei hei
        obtain ⟨⟨h0, hlt⟩, g⟩ := g
        refine ⟨_, g, fun w => ?_⟩
        have hsz := (ht.get hei).run_sizeOf w
        simp only [execOp, ho, hp, hq, AV.den, Instr.indexAt, asIntOf, Sem.run_bind, Sem.run_pure, Result.andThen_ok, run_underlying h1, Sem.run_ite, Instr.sureAddr]
        rw [if_pos ⟨h0, hlt⟩]
        simp only [Sem.run_bind, hsz, Result.andThen_ok, Sem.run_pure, Addr.add]
        split <;> simp_all
      · exact g.elim
    · exact g.elim
  · rename_i c ho
    split at h
    · rename_i b hc
      obtain ⟨vs, hvs, h⟩ := evalL_sound hm h
      obtain ⟨v, hv, hr⟩ := pureB_sound ht h o.type
      refine ⟨v, hv, fun w => ?_⟩
      have e : c.args.map a.eval = (denL vs).toArray := by apply Array.ext'; rw [Array.toList_map, hvs]
      simp only [execOp, ho, resolve, hc, Sem.run_bind, Sem.run_pure, Result.andThen_ok, invoke, e, hr w _]
    · exact h.elim
  · rename_i t parts ho
    obtain ⟨vs, hvs, h⟩ := evalL_sound hm h
    split at h
    · rename_i z fs _ hs
      have hd := (ht.get hs).desc
      simp only [DescOk] at hd
      obtain ⟨hu, hfs, hall⟩ := hd
      have hz := (ht.get hs).run_zero
      let place : Nat → Option (Nat × Nat) := fun f => ((P.fieldsOf t)[f]?).map fun F => (F.offset, P.cellsOf F.type)
      have hpl : ∀ f off ty ti, nth fs f = some (off, ty) → tab.get ty = some ti → place f = some (off, ti.sz) := by
        intro f off ty ti hf hti
        rw [nth_eq, ← hfs] at hf
        simp only [List.getElem?_map, Option.map_eq_some_iff, Prod.mk.injEq] at hf
        obtain ⟨F, hF, rfl, rfl⟩ := hf
        have hF' : (P.fieldsOf t)[f]? = some F := by simpa using hF
        obtain ⟨x, hx, _, hxs, _⟩ := (ht.get hti).info'
        simp [place, hF', Program.cellsOf, hx, hxs]
      obtain ⟨l, hl, hfill⟩ := buildK_sound place hpl _ _ _ h
      refine ⟨_, hl, fun w => ?_⟩
      have e := partsVals parts vs hvs
      have hm' := run_mapM_ok P w (fun f : Field => (do pure (f.offset, ← sizeOf f.type) : Sem (Nat × Nat))) (fun F => (F.offset, P.cellsOf F.type)) (P.fieldsOf t) (fun F hF => by
        have := List.all_eq_true.1 hall F (by simpa using hF)
        cases hx : P.info? F.type with
        | none => simp [hx] at this
        | some x => simp [sizeOf, typeInfo, Program.cellsOf, hx])
      have hpl' : (fun x => ((P.fieldsOf t).map fun F => (F.offset, P.cellsOf F.type))[x]?) = place := by
        funext x; simp [place]
      simp only [execOp, ho, Instr.build, Sem.run_bind, hz w, Result.andThen_ok, run_underlying hu, hm', e, hpl', AV.den, Value.cells, hfill, Sem.run_pure]
    · rename_i z n e _ hs
      have hu := (ht.get hs).desc
      simp only [DescOk] at hu
      have hz := (ht.get hs).run_zero
      split at h
      · rename_i ei hei
        obtain ⟨l, hl, hfill⟩ := fillK_sound _ _ _ h
        refine ⟨_, hl, fun w => ?_⟩
        have ep := partsVals parts vs hvs
        have hsz := (ht.get hei).run_sizeOf w
        simp only [execOp, ho, Instr.build, Sem.run_bind, hz w, Result.andThen_ok, run_underlying hu, hsz, ep, AV.den, Value.cells, hfill, Sem.run_pure]
      · exact h.elim
    · exact h.elim
  · exact h.elim
end
end Go.Eng
