/- Undo: marks gone through: plainly; what a history is. -/
import Derived.Test.YtkjnkepdhbpnbaaG
namespace Go.Sp
open Go.Eng

/-- No two marks have one name; no two came at once. -/
structure keysOk (es : MK) : Prop where
  key : ∀ a b a' b', (a, b) ∈ es → (a', b') ∈ es → a.1 = a'.1 → b = b'
  born : (es.map (·.2)).Nodup

/-- All marks, gone through. -/
def kfA (f t : Int) (es : MK) : MK := es.filterMap fun e => if f ≤ e.1.2 ∧ e.1.2 ≤ t then some ((e.1.1, e.1.2 - f), e.2) else none

theorem kf_nil (f t : Int) (es : MK) : kf f t [] es = es := by
  unfold kf
  simp

theorem eqS_iff {a b : ByteArray} : eqS a b = true ↔ a = b := by
  constructor
  · intro h
    have h : a.data.toList = b.data.toList := by simpa [eqS] using h
    apply ByteArray.ext; exact Array.toList_inj.1 h
  · rintro rfl; simp [eqS]

theorem kf_mem {f t : Int} {r : List Nat} {es : MK} {a : ByteArray × Int} {b : Nat} (h : (a, b) ∈ kf f t r es) : (b ∉ r ∧ (a, b) ∈ es) ∨ (b ∈ r ∧ ∃ v, ((a.1, v), b) ∈ es ∧ f ≤ v ∧ v ≤ t ∧ a.2 = v - f) := by
  unfold kf at h
  obtain ⟨e, he, h⟩ := List.mem_filterMap.1 h
  split at h
  · rename_i hr
    split at h
    · rename_i hok
      cases h
      exact .inr ⟨hr, e.1.2, he, hok.1, hok.2, rfl⟩
    · cases h
  · rename_i hr
    cases h
    exact .inl ⟨hr, he⟩

theorem kf_key {f t : Int} {r : List Nat} {es : MK} (hk : keysOk es) {a a' : ByteArray × Int} {b b' : Nat} (h : (a, b) ∈ kf f t r es) (h' : (a', b') ∈ kf f t r es) (e : a.1 = a'.1) : b = b' := by
  rcases kf_mem h with ⟨_, g⟩ | ⟨_, v, g, _⟩ <;> rcases kf_mem h' with ⟨_, g'⟩ | ⟨_, v', g', _⟩
  · exact hk.key _ _ _ _ g g' e
  · exact hk.key _ _ _ _ g g' e
  · exact hk.key _ _ _ _ g g' e
  · exact hk.key _ _ _ _ g g' e

theorem born_one {es : MK} (hk : (es.map (·.2)).Nodup) {a a' : ByteArray × Int} {b : Nat} (h : (a, b) ∈ es) (h' : (a', b) ∈ es) : a = a' := by
  induction es with
  | nil => cases h
  | cons e es ih =>
    rw [List.map_cons, List.nodup_cons] at hk
    rcases List.mem_cons.1 h with h1 | h1 <;> rcases List.mem_cons.1 h' with h2 | h2
    · have := h1.trans h2.symm; cases this; rfl
    · refine absurd (List.mem_map.2 ⟨_, h2, ?_⟩) hk.1; rw [← h1]
    · refine absurd (List.mem_map.2 ⟨_, h1, ?_⟩) hk.1; rw [← h2]
    · exact ih hk.2 h1 h2

/-- What becomes of one mark. -/
def kfO (f t : Int) (r : List Nat) (e : (ByteArray × Int) × Nat) : Option ((ByteArray × Int) × Nat) := if e.2 ∈ r then (if f ≤ e.1.2 ∧ e.1.2 ≤ t then some ((e.1.1, e.1.2 - f), e.2) else none) else some e

theorem kf_cons (f t : Int) (r : List Nat) (e : (ByteArray × Int) × Nat) (es : MK) : kf f t r (e :: es) = (match kfO f t r e with | none => kf f t r es | some x => x :: kf f t r es) := by
  show List.filterMap (kfO f t r) (e :: es) = _
  rw [List.filterMap_cons]
  cases kfO f t r e <;> rfl

theorem kfO_two {f t : Int} {r : List Nat} {e x : (ByteArray × Int) × Nat} (h : kfO f t r e = some x) : x.2 = e.2 := by
  unfold kfO at h
  split at h
  · split at h
    · cases h; rfl
    · cases h
  · cases h; rfl

theorem kfO_off {f t : Int} {r : List Nat} {e : (ByteArray × Int) × Nat} {b : Nat} (he : e.2 ≠ b) : kfO f t (b :: r) e = kfO f t r e := by
  unfold kfO
  by_cases her : e.2 ∈ r
  · rw [if_pos her, if_pos (List.mem_cons_of_mem _ her)]
  · rw [if_neg her, if_neg (fun h => (List.mem_cons.1 h).elim he her)]

/-- One mark that is not so goes. -/
theorem kf_drop {f t : Int} {r : List Nat} {es : MK} (hk : (es.map (·.2)).Nodup) {a : ByteArray × Int} {b : Nat} (hm : (a, b) ∈ es) (hr : b ∉ r) (hb : ¬ (f ≤ a.2 ∧ a.2 ≤ t)) : dropE (kf f t r es) b = kf f t (b :: r) es := by
  have main : ∀ es' : MK, (∀ e ∈ es', e.2 = b → e.1 = a) → dropE (kf f t r es') b = kf f t (b :: r) es' := by
    intro es'
    induction es' with
    | nil => intro _; rfl
    | cons e es' ih =>
      intro h
      have ih := ih fun e' he' => h e' (List.mem_cons_of_mem _ he')
      have h0 := h e (List.mem_cons_self ..)
      rw [kf_cons, kf_cons]
      by_cases he : e.2 = b
      · have ha := h0 he
        have h1 : kfO f t r e = some e := by unfold kfO; rw [if_neg (by rw [he]; exact hr)]
        have h2 : kfO f t (b :: r) e = none := by unfold kfO; rw [if_pos (by rw [he]; exact List.mem_cons_self ..), if_neg (by rw [ha]; exact hb)]
        rw [h1, h2]
        show List.filter _ (_ :: _) = _
        rw [List.filter_cons, if_neg (by rw [he]; simp)]
        exact ih
      · rw [kfO_off he]
        cases hx : kfO f t r e with
        | none => exact ih
        | some x =>
          have hx2 := kfO_two hx
          show List.filter _ (_ :: _) = _
          rw [List.filter_cons, if_pos (by rw [hx2, Bool.not_eq_true', ← Bool.not_eq_true, Nat.beq_eq]; exact he)]
          exact congrArg _ ih
  exact main es fun e he heb => born_one hk (b := b) (by rw [← heb]; exact he) hm

/-- One mark that is so moves. -/
theorem kf_set {f t : Int} {r : List Nat} {es : MK} (hk : (es.map (·.2)).Nodup) {a : ByteArray × Int} {b : Nat} (hm : (a, b) ∈ es) (hr : b ∉ r) (hb : f ≤ a.2 ∧ a.2 ≤ t) : setE (kf f t r es) b (a.1, a.2 - f) = kf f t (b :: r) es := by
  have main : ∀ es' : MK, (∀ e ∈ es', e.2 = b → e.1 = a) → setE (kf f t r es') b (a.1, a.2 - f) = kf f t (b :: r) es' := by
    intro es'
    induction es' with
    | nil => intro _; rfl
    | cons e es' ih =>
      intro h
      have ih := ih fun e' he' => h e' (List.mem_cons_of_mem _ he')
      have h0 := h e (List.mem_cons_self ..)
      rw [kf_cons, kf_cons]
      by_cases he : e.2 = b
      · have ha := h0 he
        have h1 : kfO f t r e = some e := by unfold kfO; rw [if_neg (by rw [he]; exact hr)]
        have h2 : kfO f t (b :: r) e = some ((a.1, a.2 - f), b) := by unfold kfO; rw [if_pos (by rw [he]; exact List.mem_cons_self ..), if_pos (by rw [ha]; exact hb), ha, he]
        rw [h1, h2]
        show List.map _ (_ :: _) = _
        rw [List.map_cons, if_pos he]
        exact congrArg _ ih
      · rw [kfO_off he]
        cases hx : kfO f t r e with
        | none => exact ih
        | some x =>
          have hx2 := kfO_two hx
          show List.map _ (_ :: _) = _
          rw [List.map_cons, if_neg (by rw [hx2]; exact he)]
          exact congrArg _ ih
  exact main es fun e he heb => born_one hk (b := b) (by rw [← heb]; exact he) hm

/-- All were gone through. -/
theorem kf_all {f t : Int} {r : List Nat} {es : MK} (h : ∀ a b, (a, b) ∈ kf f t r es → b ∈ r) : kf f t r es = kfA f t es := by
  have hall : ∀ e ∈ es, e.2 ∈ r := fun e he => Classical.byContradiction fun hn => by
    refine hn (h e.1 e.2 ?_)
    unfold kf
    exact List.mem_filterMap.2 ⟨e, he, by rw [if_neg hn]⟩
  have go : ∀ es' : MK, (∀ e ∈ es', e.2 ∈ r) → kf f t r es' = kfA f t es' := by
    intro es'
    induction es' with
    | nil => intro _; rfl
    | cons e es' ih =>
      intro h
      unfold kf kfA at *
      rw [List.filterMap_cons, List.filterMap_cons, if_pos (h e (List.mem_cons_self ..)), ih fun e' he' => h e' (List.mem_cons_of_mem _ he')]
  exact go es hall

theorem kfA_mem {f t : Int} {es : MK} {a : ByteArray × Int} {b : Nat} (h : (a, b) ∈ kfA f t es) : ∃ v, ((a.1, v), b) ∈ es ∧ f ≤ v ∧ v ≤ t ∧ a.2 = v - f := by
  unfold kfA at h
  obtain ⟨e, he, h⟩ := List.mem_filterMap.1 h
  split at h
  · rename_i hok
    cases h
    exact ⟨e.1.2, he, hok.1, hok.2, rfl⟩
  · cases h

theorem kfA_keys {f t : Int} {es : MK} (hk : keysOk es) : keysOk (kfA f t es) := by
  refine ⟨fun a b a' b' h h' e => ?_, ?_⟩
  · obtain ⟨v, g, _⟩ := kfA_mem h
    obtain ⟨v', g', _⟩ := kfA_mem h'
    exact hk.key _ _ _ _ g g' e
  · have : ((kfA f t es).map (·.2)).Sublist (es.map (·.2)) := by
      unfold kfA
      induction es with
      | nil => exact List.Sublist.refl _
      | cons e es ih =>
        have ih := ih ⟨fun a b a' b' h h' => hk.key a b a' b' (by simp [h]) (by simp [h']), by have := hk.born; rw [List.map_cons, List.nodup_cons] at this; exact this.2⟩
        rw [List.filterMap_cons, List.map_cons]
        split
        · exact ih.cons _
        · rename_i x hx
          split at hx <;> cases hx
          exact ih.cons_cons _
    exact this.nodup hk.born

theorem kfA_len (f t : Int) (es : MK) : (kfA f t es).length ≤ es.length := List.length_filterMap_le _ _

end Go.Sp

