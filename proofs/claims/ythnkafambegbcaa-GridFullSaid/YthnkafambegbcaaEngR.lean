import Derived.Test.YthnkafambegbcaaEngG
import Derived.Deep.Slices
import Derived.ChangeArms
set_option linter.unusedSimpArgs false
set_option linter.unusedVariables false
namespace Go.Eng
open Go Go.Sp
theorem wf_i64 {n : Int} (h : (Lit.int .i64 n).wf = true) : -9223372036854775808 ≤ n ∧ n ≤ 9223372036854775807 := by
  simp only [Lit.wf, Bool.and_eq_true, decide_eq_true_eq] at h
  exact h
theorem wf_u8 {n : Int} (h : (Lit.int .u8 n).wf = true) : 0 ≤ n ∧ n ≤ 255 := by
  simp only [Lit.wf, Bool.and_eq_true, decide_eq_true_eq] at h
  exact h
inductive Kd where
  | int (k : IntKind)
  | str
  | bool
  | slc
def Kd.ok : Kd → Value → Prop
  | .int k, v => ∃ n, v = .int k n ∧ (Lit.int k n).wf = true
  | .str, v => ∃ s : ByteArray, v = .string s ∧ s.size ≤ maxLen
  | .bool, v => ∃ b, v = .bool b
  | .slc, v => ∃ a len cap, v = .slice a len cap ∧ len ≤ cap ∧ cap ≤ maxLen
def flatK (kinds : Nat → Option (List Kd)) : List (Nat × Nat) → Nat → Option (List Kd)
  | [], _ => some []
  | (off, ty) :: fs, at_ =>
    match kinds ty with
    | some ks => (match Nat.beq off at_, flatK kinds fs (at_ + ks.length) with | true, some r => some (ks ++ r) | _, _ => none)
    | none => none
def kindsD (kinds : Nat → Option (List Kd)) : TD → Option (List Kd)
  | .int k => some [.int k]
  | .str => some [.str]
  | .bool => some [.bool]
  | .struct fs => flatK kinds fs 0
  | .slice _ => some [.slc]
  | _ => none
def kindsOf (tab : Tab) : Nat → Nat → Option (List Kd)
  | 0, _ => none
  | d + 1, t =>
    match tab.get t with
    | some i => (match kindsD (kindsOf tab d) i.d with | some ks => (match Nat.beq ks.length i.sz with | true => some ks | false => none) | none => none)
    | none => none
theorem kindsOf_sz {tab : Tab} {d t : Nat} {ks : List Kd} (h : kindsOf tab d t = some ks) : ∃ i, tab.get t = some i ∧ i.sz = ks.length := by
  cases d with
  | zero => simp [kindsOf] at h
  | succ d =>
    simp only [kindsOf] at h
    split at h
    · rename_i i hi
      split at h
      · split at h
        · rename_i hl; cases h; exact ⟨i, hi, (Nat.eq_of_beq_eq_true hl).symm⟩
        · cases h
      · cases h
    · cases h
def AllKd : List Kd → List Value → Prop
  | [], [] => True
  | k :: ks, v :: vs => k.ok v ∧ AllKd ks vs
  | _, _ => False
theorem AllKd.length : ∀ {ks : List Kd} {vs : List Value}, AllKd ks vs → vs.length = ks.length
  | [], [], _ => rfl
  | k :: ks, v :: vs, ⟨_, h⟩ => by simp [h.length]
  | [], _ :: _, h => h.elim
  | _ :: _, [], h => h.elim
theorem AllKd.append : ∀ {ks ls : List Kd} {vs us : List Value}, AllKd ks vs → AllKd ls us → AllKd (ks ++ ls) (vs ++ us)
  | [], _, [], _, _, h => h
  | k :: ks, _, v :: vs, _, ⟨h1, h2⟩, h => ⟨h1, h2.append h⟩
  | [], _, _ :: _, _, h, _ => h.elim
  | _ :: _, _, [], _, h, _ => h.elim
theorem AllKd.get : ∀ {ks : List Kd} {vs : List Value}, AllKd ks vs → ∀ {j : Nat} {k : Kd} , ks[j]? = some k → ∃ v, vs[j]? = some v ∧ k.ok v
  | [], [], _, j, k, h => by simp at h
  | k :: ks, v :: vs, ⟨h1, h2⟩, 0, k', h => by simp at h; subst h; exact ⟨v, rfl, h1⟩
  | k :: ks, v :: vs, ⟨h1, h2⟩, j + 1, k', h => by simp only [List.getElem?_cons_succ] at h ⊢; exact h2.get h
  | [], _ :: _, h, _, _, _ => h.elim
  | _ :: _, [], h, _, _, _ => h.elim
section
variable {H : Type} {enc : TypeId × Value → H} {P : Program} {w : World} {base : Nat} {spare : Nat → Bool} {held : Bool}
theorem trod_kinds {tab : Tab} (ht : TabOk P tab) : ∀ (d fuel t : Nat) (cs : List Value) (x : DataW H × List MemPlace) (ks : List Kd), DataW.trod enc P w base spare held fuel t cs = some x → kindsOf tab d t = some ks → AllKd ks cs
  | 0, _, _, _, _, _, _, hk => by simp [kindsOf] at hk
  | d + 1, fuel, t, cs, x, ks, h, hk => by
    simp only [kindsOf] at hk
    split at hk
    rotate_left
    · cases hk
    rename_i i hi
    have hd := (ht.get hi).desc
    split at hk
    rotate_left
    · cases hk
    rename_i ks0 hk0
    split at hk
    rotate_left
    · cases hk
    rename_i hl
    cases hk
    have hl := Nat.eq_of_beq_eq_true hl
    unfold kindsD at hk0
    split at hk0
    · rename_i k e
      rw [e] at hd; cases hk0
      obtain ⟨n, rfl, _, hw⟩ := DataW.trod_int hd h
      exact ⟨⟨n, rfl, hw⟩, trivial⟩
    · rename_i e
      rw [e] at hd; cases hk0
      obtain ⟨s, rfl, _, hw⟩ := DataW.trod_string hd h
      exact ⟨⟨s, rfl, hw⟩, trivial⟩
    · rename_i e
      rw [e] at hd; cases hk0
      obtain ⟨b, rfl, _⟩ := DataW.trod_bool hd h
      exact ⟨⟨b, rfl⟩, trivial⟩
    · rename_i fs e
      rw [e] at hd
      simp only [DescOk] at hd
      obtain ⟨hu, hfs, _⟩ := hd
      obtain ⟨xs, n, _, _, hcl, hxl, hall⟩ := DataW.trod_struct hu h
      obtain ⟨inf, hinf, _, his, _⟩ := (ht.get hi).info'
      have hcell : P.cellsOf t = i.sz := by simp [Program.cellsOf, hinf, his]
      rw [hcell] at hcl
      have key : ∀ (F : List Field) (k at_ : Nat) (ks : List Kd), (P.fieldsOf t).toList.drop k = F → flatK (kindsOf tab d) (F.map fun f => (f.offset, f.type)) at_ = some ks → at_ + ks.length ≤ cs.length → AllKd ks ((cs.drop at_).take ks.length) := by
        intro F
        induction F with
        | nil => intro k at_ ks _ hf _; cases hf; trivial
        | cons f F ih =>
          intro k at_ ks hdrop hf hle
          simp only [List.map_cons, flatK] at hf
          split at hf
          · rename_i ks1 hk1
            split at hf
            · rename_i r hoff hr
              cases hf
              have hoff := Nat.eq_of_beq_eq_true hoff
              have hfk : (P.fieldsOf t)[k]? = some f := by
                have : ((P.fieldsOf t).toList.drop k)[0]? = some f := by rw [hdrop]; rfl
                rw [List.getElem?_drop] at this
                simpa using this
              have hx := hall k f hfk
              have hk2 : k < (P.fieldsOf t).size := (Array.getElem?_eq_some_iff.1 hfk).1
              rw [List.getElem?_eq_getElem (by omega)] at hx
              have h1 := trod_kinds ht d n f.type _ _ ks1 hx hk1
              obtain ⟨i2, hi2, hs2⟩ := kindsOf_sz hk1
              obtain ⟨inf2, hinf2, _, his2, _⟩ := (ht.get hi2).info'
              have hl1 : P.cellsOf f.type = ks1.length := by simp [Program.cellsOf, hinf2, his2, hs2]
              have h2 := ih (k + 1) (at_ + ks1.length) r (by
                have := congrArg (List.drop 1) hdrop
                rw [List.drop_drop] at this
                simpa using this) hr (by simp at hle; omega)
              have e1 : (cs.drop at_).take (ks1 ++ r).length = (cs.drop at_).take ks1.length ++ (cs.drop (at_ + ks1.length)).take r.length := by
                rw [List.length_append, List.take_add, List.drop_drop]
              rw [e1]
              rw [hl1, hoff] at h1
              exact h1.append h2
            · cases hf
          · cases hf
      have := key (P.fieldsOf t).toList 0 0 _ rfl (by rw [hfs]; exact hk0) (by omega)
      rw [List.drop_zero, List.take_of_length_le (by omega)] at this
      exact this
    · rename_i e' e
      rw [e] at hd; cases hk0
      rcases Go.Deep.open_slice hd h with ⟨h1, _⟩ | ⟨a, len, cap, m, n, D, Pl, hv, hb, hl2, hc, _⟩
      · rw [h1]; exact ⟨⟨none, 0, 0, rfl, Nat.le_refl _, Nat.zero_le _⟩, trivial⟩
      · rw [hv]; exact ⟨⟨some a, len, cap, rfl, hl2, hc⟩, trivial⟩
    · cases hk0
def intV : Value → Int
  | .int _ n => n
  | _ => 0
def strV : Value → ByteArray
  | .string s => s
  | _ => ByteArray.empty
def boolV : Value → Bool
  | .bool b => b
  | _ => false
def slcV : Value → SV
  | .slice a len cap => ⟨a, len, cap⟩
  | _ => ⟨none, 0, 0⟩
def Kd.col (V : Nat → Value) : Kd → Col
  | .int k => .ints k fun i => intV (V i)
  | .str => .strs fun i => strV (V i)
  | .bool => .bools fun i => boolV (V i)
  | .slc => .slcs fun i => slcV (V i)
theorem Kd.col_at {k : Kd} {V : Nat → Value} {i : Nat} (h : k.ok (V i)) : ((k.col V).at i).den = V i := by
  cases k with
  | int k => obtain ⟨n, e, _⟩ := h; simp [Kd.col, Col.at, AV.den, e, intV]
  | str => obtain ⟨s, e, _⟩ := h; simp [Kd.col, Col.at, AV.den, e, strV]
  | bool => obtain ⟨b, e⟩ := h; simp [Kd.col, Col.at, AV.den, e, boolV]
  | slc => obtain ⟨a, len, cap, e, _⟩ := h; simp [Kd.col, Col.at, AV.den, e, slcV]
def viewCols (V : Nat → Nat → Value) : List Kd → Nat → List Col
  | [], _ => []
  | k :: ks, j => k.col (fun i => V i j) :: viewCols V ks (j + 1)
@[simp] theorem viewCols_length (V : Nat → Nat → Value) : ∀ (ks : List Kd) (j : Nat), (viewCols V ks j).length = ks.length
  | [], _ => rfl
  | k :: ks, j => by simp [viewCols, viewCols_length V ks]
theorem viewCols_row {V : Nat → Nat → Value} {i : Nat} : ∀ (ks : List Kd) (j0 : Nat), (∀ (j : Nat) (k : Kd), ks[j]? = some k → k.ok (V i (j0 + j))) → ∀ j x, (rowOf (viewCols V ks j0) i)[j]? = some x → x.den = V i (j0 + j)
  | [], _, _, j, x, h => by simp [viewCols, rowOf] at h
  | k :: ks, j0, hok, 0, x, h => by
    simp [viewCols, rowOf] at h
    subst h
    exact Kd.col_at (hok 0 k rfl)
  | k :: ks, j0, hok, j + 1, x, h => by
    simp only [viewCols, rowOf, List.getElem?_cons_succ] at h
    have := viewCols_row ks (j0 + 1) (fun j' k' hk => by
      have := hok (j' + 1) k' hk
      rw [show j0 + (j' + 1) = j0 + 1 + j' by omega] at this
      exact this) j x h
    rw [this, show j0 + 1 + j = j0 + (j + 1) by omega]
theorem open_plain {tab : Tab} (ht : TabOk P tab) {t e d fuel : Nat} {ks : List Kd} (hts : P.underlying t = some (.slice e)) (hks : kindsOf tab d e = some ks) (hpos : 0 < ks.length) {v : Value} {x : DataW H × List MemPlace} (h : DataW.trod enc P w base spare held fuel t [v] = some x) :
    (∃ a cap, v = .slice a 0 cap) ∨ ∃ (n o len cap : Nat) (V : Nat → Nat → Value), 0 < len ∧ len ≤ cap ∧ cap ≤ maxLen ∧ v = .slice (some ⟨n, o, none⟩) len cap ∧ (Cont.view o len (viewCols V ks 0)).holds w n ∧
      ∀ i, i < len → ∀ (j : Nat) (k : Kd), ks[j]? = some k → k.ok (V i j) := by
  rcases Go.Deep.open_slice hts h with ⟨h1, _⟩ | ⟨a, len, cap, m, n, D, Pl, hv, hb, hl, hc, hm, _, hx⟩
  · simp only [List.cons.injEq, and_true] at h1
    exact .inl ⟨none, 0, h1⟩
  · simp only [List.cons.injEq, and_true] at hv
    rcases Nat.eq_zero_or_pos len with h0 | h0
    · subst h0; exact .inl ⟨some a, cap, hv⟩
    · right
      have hml : len ≤ m := by rw [hm]; split <;> omega
      obtain ⟨i2, hi2, hs2⟩ := kindsOf_sz hks
      obtain ⟨inf2, hinf2, _, his2, _⟩ := (ht.get hi2).info'
      have hce : P.cellsOf e = ks.length := by simp [Program.cellsOf, hinf2, his2, hs2]
      rw [hce] at hx
      have hch : ∀ i, ∃ l : List Value, i < m → w.cells? base (a.add (i * ks.length)) ks.length = some l ∧ AllKd ks l := fun i => by
        by_cases hi : i < m
        · obtain ⟨cs', h1, h2⟩ := hx i hi
          exact ⟨cs', fun _ => ⟨h1, trod_kinds ht d n e cs' _ ks h2 hks⟩⟩
        · exact ⟨[], fun h => absurd h hi⟩
      obtain ⟨L, hL⟩ := Classical.axiomOfChoice hch
      have hread : ∀ i, i < m → ∀ j, j < ks.length → w.cell? ((a.add (i * ks.length)).add j) = (L i)[j]? ∧ ∃ v, (L i)[j]? = some v := fun i hi j hj => by
        obtain ⟨h1, h2⟩ := hL i hi
        obtain ⟨_, _, h3⟩ := World.cells?_some h1
        refine ⟨h3 j hj, ?_⟩
        have := h2.length
        exact ⟨_, List.getElem?_eq_getElem (by omega)⟩
      obtain ⟨blk, off, spot⟩ := a
      have hsp : spot = none := by
        obtain ⟨h1, v, h2⟩ := hread 0 (by omega) 0 hpos
        rw [h2, Nat.zero_mul] at h1
        simp only [Addr.add, if_true] at h1
        cases spot with
        | none => rfl
        | some q =>
          simp only [World.cell?] at h1
          split at h1
          · simp at h1
          · cases h1
      subst hsp
      obtain ⟨c, ty, fz, hblk⟩ : ∃ (c : Array Value) (ty : TypeId) (fz : Nat × Nat), w.heap[blk]? = some (.cells c ty fz) := by
        obtain ⟨h1, v, h2⟩ := hread 0 (by omega) 0 hpos
        rw [h2] at h1
        simp only [Nat.zero_mul, addr_add, World.cell?] at h1
        split at h1
        · rename_i c ty fz hh; exact ⟨c, ty, fz, hh⟩
        · cases h1
      refine ⟨blk, off, len, cap, fun i j => ((L i)[j]?).getD undef, h0, hl, hc, hv, ⟨c.toList, ty, fz, by simpa using hblk, fun i hi j y hy => ?_⟩, fun i hi j k hk => ?_⟩
      · have hj : j < ks.length := by
          rcases Nat.lt_or_ge j ks.length with h | h
          · exact h
          · rw [List.getElem?_eq_none (by simp; exact h)] at hy; cases hy
        obtain ⟨h1, v, h2⟩ := hread i (by omega) j hj
        have hy' := viewCols_row (V := fun i j => ((L i)[j]?).getD undef) (i := i) ks 0 (fun j' k' hk' => by
          obtain ⟨v', hv', hok'⟩ := (hL i (by omega)).2.get hk'
          simp only [Nat.zero_add, hv', Option.getD_some]
          exact hok') j y hy
        simp only [Nat.zero_add, h2, Option.getD_some] at hy'
        rw [h2] at h1
        simp only [addr_add, World.cell?, hblk] at h1
        simp only [viewCols_length, Array.getElem?_toList]
        rw [hy']
        simpa using h1
      · obtain ⟨v', hv', hok'⟩ := (hL i (by omega)).2.get hk
        simp only [hv', Option.getD_some]
        exact hok'
end
end Go.Eng
