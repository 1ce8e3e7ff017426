/- Undo: the order of marks. -/
import Derived.Test.YtkjnkepdhbpnbaaU
import Derived.Test.YtkjnkepdhbpnbaaY9
namespace Go.Sp
open Go.Eng Go.Sort Go.Proofs
set_option linter.unusedSimpArgs false
set_option linter.unusedVariables false

theorem bless_eq : ∀ (x y : List UInt8), Op.bytesLess x y = decide (x < y)
  | [], [] => by simp [Op.bytesLess]
  | _ :: _, [] => by simp [Op.bytesLess]
  | [], _ :: _ => by simp [Op.bytesLess]
  | a :: x, b :: y => by
    rw [Op.bytesLess, bless_eq x y]
    simp only [List.cons_lt_cons_iff]
    by_cases h1 : a < b <;> by_cases h2 : a = b <;> by_cases h3 : x < y <;> simp [h1, h2, h3]

theorem ltS_iff {x y : ByteArray} : ltS x y = true ↔ x.data.toList < y.data.toList := by
  rw [ltS, bless_eq, decide_eq_true_eq]
theorem ltS_irrefl (x : ByteArray) : ¬ ltS x x = true := fun h => List.lt_irrefl _ (ltS_iff.1 h)
theorem ltS_trans {x y z : ByteArray} (h1 : ltS x y = true) (h2 : ltS y z = true) : ltS x z = true := ltS_iff.2 (List.lt_trans (ltS_iff.1 h1) (ltS_iff.1 h2))
theorem ltS_tri {x y : ByteArray} (h1 : ¬ ltS x y = true) (h2 : ¬ ltS y x = true) : x = y := by
  have : x.data.toList = y.data.toList := List.le_antisymm (List.not_lt.1 fun h => h2 (ltS_iff.2 h)) (List.not_lt.1 fun h => h1 (ltS_iff.2 h))
  apply ByteArray.ext; exact Array.toList_inj.1 this

/-- Where the mark of a name is. -/
def mv (es : MK) (x : ByteArray) : Int := ((es.find? fun e => eqS x e.1.1).map fun e => e.1.2).getD 0

theorem mv_in {es : MK} (hk : keysOk es) {x : ByteArray} {v : Int} {b : Nat} (h : ((x, v), b) ∈ es) : mv es x = v := by
  unfold mv
  cases hf : es.find? fun e => eqS x e.1.1 with
  | none =>
    have := List.find?_eq_none.1 hf _ h
    simp [eqS] at this
  | some e =>
    have h1 := List.mem_of_find?_eq_some hf
    have h2 : x = e.1.1 := eqS_iff.1 (List.find?_some (p := fun e : (ByteArray × Int) × Nat => eqS x e.1.1) hf)
    have hb := hk.key e.1 e.2 (x, v) b h1 h h2.symm
    have : e.1 = (x, v) := born_one hk.born (b := b) (by rw [← hb]; exact h1) h
    show e.1.2 = v
    rw [this]

theorem mv_out {es : MK} {x : ByteArray} (h : ∀ a b, (a, b) ∈ es → eqS x a.1 = false) : mv es x = 0 := by
  unfold mv
  have : es.find? (fun e => eqS x e.1.1) = none := List.find?_eq_none.2 fun e he => by rw [h e.1 e.2 he]; simp
  rw [this]; rfl

/-- How two names stand: by their places, then by themselves. -/
def cfM (es : MK) (x y : ByteArray) : Int := if cmpZ (mv es x) (mv es y) ≠ 0 then cmpZ (mv es x) (mv es y) else cmpT x y

/-- One name ahead of another. -/
def ahead (es : MK) (x y : ByteArray) : Prop := mv es x < mv es y ∨ mv es x = mv es y ∧ ltS x y = true

theorem ltOf_iff {es : MK} {x y : ByteArray} : ltOf (cfM es) x y = true ↔ ahead es x y := by
  unfold ltOf ahead cfM cmpZ cmpT
  rw [decide_eq_true_eq]
  by_cases h1 : mv es x < mv es y
  · simp [h1]
  · by_cases h2 : mv es x > mv es y
    · have : ¬ mv es x = mv es y := by omega
      simp [h1, h2, this]
    · have h3 : mv es x = mv es y := by omega
      simp only [h1, h2, if_false, ne_eq, not_true, false_or, h3, true_and]
      by_cases h4 : ltS x y = true
      · simp [h4]
      · by_cases h5 : eqS x y = true <;> simp [h4, h5]

theorem ltOf_false {es : MK} {x y : ByteArray} : ltOf (cfM es) x y = false ↔ ¬ ahead es x y := by rw [← Bool.not_eq_true, ltOf_iff]

theorem ahead_trans {es : MK} {x y z : ByteArray} (h1 : ahead es x y) (h2 : ahead es y z) : ahead es x z := by
  rcases h1 with h1 | ⟨h1, g1⟩ <;> rcases h2 with h2 | ⟨h2, g2⟩
  · exact .inl (by omega)
  · exact .inl (by omega)
  · exact .inl (by omega)
  · exact .inr ⟨by omega, ltS_trans g1 g2⟩
theorem ahead_tri {es : MK} {x y : ByteArray} (h1 : ¬ ahead es x y) (h2 : ¬ ahead es y x) : x = y := by
  unfold ahead at h1 h2
  have h3 : mv es x = mv es y := by omega
  exact ltS_tri (fun h => h1 (.inr ⟨h3, h⟩)) (fun h => h2 (.inr ⟨h3.symm, h⟩))

theorem ahead_irrefl {es : MK} {x : ByteArray} : ¬ ahead es x x := fun h => by
  rcases h with h | ⟨_, h⟩
  · omega
  · exact ltS_irrefl _ h

theorem swoM (es : MK) : SWO (ltOf (cfM es)) where
  irrefl x := ltOf_false.2 ahead_irrefl
  trans x y z h1 h2 := ltOf_iff.2 (ahead_trans (ltOf_iff.1 h1) (ltOf_iff.1 h2))
  ntrans x y z h1 h2 := ltOf_false.2 fun h => by
    have g1 := ltOf_false.1 h1
    have g2 := ltOf_false.1 h2
    by_cases e1 : ahead es y x
    · exact g2 (by
        by_cases e2 : ahead es y z
        · exact e2
        · by_cases e3 : ahead es z y
          · exact absurd (ahead_trans h (ahead_trans e3 e1)) ahead_irrefl
          · rw [← ahead_tri e2 e3] at h
            exact absurd h g1)
    · rw [ahead_tri g1 e1] at h
      exact g2 h

/-- Names in order. -/
def sortNm (es : MK) (l : List ByteArray) : List ByteArray := l.mergeSort fun x y => !(ltOf (cfM es) y x)

theorem sortNm_perm (es : MK) (l : List ByteArray) : (sortNm es l).Perm l := List.mergeSort_perm l _
@[simp] theorem sortNm_len (es : MK) (l : List ByteArray) : (sortNm es l).length = l.length := (sortNm_perm es l).length_eq

theorem sortNm_sorted (es : MK) (l : List ByteArray) : (sortNm es l).Pairwise fun x y => ¬ ahead es y x := by
  have := List.pairwise_mergeSort (le := fun x y => !(ltOf (cfM es) y x)) (fun a b c h1 h2 => by
      simp only [Bool.not_eq_true'] at *
      exact (swoM es).ntrans _ _ _ h2 h1) (fun a b => by
      cases h : ltOf (cfM es) b a
      · simp
      · have := (swoM es).asymm h
        simp [this]) l
  exact this.imp fun h => by
    simp only [Bool.not_eq_true'] at h
    exact ltOf_false.1 h

/-- There is one order. -/
theorem sortNm_one {es : MK} {l m : List ByteArray} (hp : l.Perm m) (hs : l.Pairwise fun x y => ¬ ahead es y x) : l = sortNm es m :=
  List.Perm.eq_of_pairwise (le := fun x y => ¬ ahead es y x) (fun a b _ _ h1 h2 => ahead_tri h2 h1) hs (sortNm_sorted es m) (hp.trans (sortNm_perm es m).symm)

end Go.Sp
namespace Go.Proofs.Ytkjnkepdhbpnbaa
open Go Go.Eng Go.Sp
set_option linter.unusedVariables false
set_option linter.unusedSimpArgs false

theorem byn_lc (bn hn mn : Nat) (m at_ : Int) (sl : Value) (es : MK) (clock : Nat) (x y : ByteArray) (hk : keysOk es) :
    LC Try.prog 35 [.v (.string x), .v (.string y), .ptr 0 bn 0] [⟨bn, .cells [.ptr 1 hn 0] 23, false⟩, ⟨hn, .cells [.v (.int .i64 m), .v (.int .i64 at_), .v sl, .mp 2 mn] 55, false⟩, ⟨mn, .mape (ByteArray × Int) kyM vlM mkM es clock, false⟩] (fun z _ => z = .v (.int .i64 (cfM es x y))) :=
  byn_vc bn hn mn m at_ sl es clock x y (by
    have fin : ∀ {u v : Int}, mv es x = u → mv es y = v → br (cmpZ u v != 0) (AV.v (Value.int IntKind.i64 (cmpZ u v)) = .v (.int .i64 (cfM es x y))) (br (cmpT x y != 0) (AV.v (Value.int IntKind.i64 (cmpT x y)) = .v (.int .i64 (cfM es x y))) (AV.v (Value.int IntKind.i64 0) = .v (.int .i64 (cfM es x y)))) := by
      intro u v e1 e2
      simp only [br_iff, bne_iff_ne, bne_eq_false_iff_eq, ne_eq, cfM, e1, e2]
      refine ⟨fun h => by rw [if_pos h], fun h => ⟨fun h2 => by rw [if_neg (fun g => g h)], fun h2 => by rw [if_neg (fun g => g h), h2]⟩⟩
    simp only [true_and, and_true]
    have bd : ((0 : Int) ≤ 0 ∧ (0 : Int) < 2) ∧ ((0 : Int) ≤ 1 ∧ (1 : Int) < 2) := by decide
    simp only [bd, true_and]
    refine ⟨fun a b hab => br_intro (fun hx => ⟨fun a2 b2 hab2 => br_intro (fun hy => fun n => ?_) (fun _ => trivial), fun hy n => ?_⟩) (fun _ => trivial), fun hx => ⟨fun a2 b2 hab2 => br_intro (fun hy => fun n => ?_) (fun _ => trivial), fun hy n => ?_⟩⟩
    · have e1 := eqS_iff.1 hx
      have e2 := eqS_iff.1 hy
      exact fin (mv_in hk (v := a.2) (b := b) (by rw [e1]; exact hab)) (mv_in hk (v := a2.2) (b := b2) (by rw [e2]; exact hab2))
    · have e1 := eqS_iff.1 hx
      exact fin (mv_in hk (v := a.2) (b := b) (by rw [e1]; exact hab)) (mv_out hy)
    · have e2 := eqS_iff.1 hy
      exact fin (mv_out hx) (mv_in hk (v := a2.2) (b := b2) (by rw [e2]; exact hab2))
    · have := fin (mv_out hx) (mv_out hy)
      have e : cmpZ 0 0 = 0 := by simp [cmpZ]
      rw [e] at this
      simpa using this)
end Go.Proofs.Ytkjnkepdhbpnbaa

