import Derived.Test.YthnkafambegbcaaEngD
import Derived.Deep.DeepAppendWide
import Derived.Deep.AppendSrc
import Derived.Deep.Upon
import Derived.Laws.MakeOwn
import Derived.Laws.CopyRow
set_option linter.unusedSimpArgs false
namespace Go.Eng
open Go Go.Sp
def Col.shift : Col → Nat → Col
  | .ints k g, r => .ints k fun i => g (r + i)
  | .strs g, r => .strs fun i => g (r + i)
  | .bools g, r => .bools fun i => g (r + i)
  | .slcs g, r => .slcs fun i => g (r + i)
  | .any g, r => .any fun i => g (r + i)
theorem Col.shift_at (c : Col) (r i : Nat) : (c.shift r).at i = c.at (r + i) := by cases c <;> rfl
def shiftCols : List Col → Nat → List Col
  | [], _ => []
  | c :: cs, r => c.shift r :: shiftCols cs r
theorem shiftCols_row : ∀ (cs : List Col) (r i : Nat), rowOf (shiftCols cs r) i = rowOf cs (r + i)
  | [], _, _ => rfl
  | c :: cs, r, i => by simp [shiftCols, rowOf, Col.shift_at, shiftCols_row cs r i]
@[simp] theorem shiftCols_length : ∀ (cs : List Col) (r : Nat), (shiftCols cs r).length = cs.length
  | [], _ => rfl
  | c :: cs, r => by simp [shiftCols, shiftCols_length cs r]
def cellCols (l : List AV) (sz r : Nat) : List Nat → List Col
  | [] => []
  | j :: js => (.any fun i => (nth l ((r + i) * sz + j)).getD (.v undef)) :: cellCols l sz r js
@[simp] theorem cellCols_length (l : List AV) (sz r : Nat) : ∀ js : List Nat, (cellCols l sz r js).length = js.length
  | [] => rfl
  | j :: js => by simp [cellCols, cellCols_length l sz r js]
theorem cellCols_row (l : List AV) (sz r i : Nat) : ∀ js : List Nat, rowOf (cellCols l sz r js) i = js.map fun j => (l[(r + i) * sz + j]?).getD (.v undef)
  | [] => rfl
  | j :: js => by simp [cellCols, rowOf, Col.at, nth_eq, cellCols_row l sz r i js]
def zcol : AV → Col
  | .v (.int k n) => .ints k fun _ => n
  | .v (.string s) => .strs fun _ => s
  | .v (.bool b) => .bools fun _ => b
  | .v (.slice a l c) => .slcs fun _ => ⟨a, l, c⟩
  | x => .any fun _ => x
theorem zcol_at (x : AV) (i : Nat) : (zcol x).at i = x := by
  unfold zcol
  split <;> rfl
def zcols : List AV → List Col
  | [] => []
  | x :: l => zcol x :: zcols l
theorem zcols_row : ∀ (l : List AV) (i : Nat), rowOf (zcols l) i = l
  | [], _ => rfl
  | x :: l, i => by simp [zcols, rowOf, zcol_at, zcols_row l i]
@[simp] theorem zcols_length : ∀ l : List AV, (zcols l).length = l.length
  | [] => rfl
  | x :: l => by simp [zcols, zcols_length l]
def allB : Nat → (Nat → Bool) → Bool
  | 0, _ => true
  | n + 1, p => p n && allB n p
theorem allB_spec : ∀ {n : Nat} {p : Nat → Bool}, allB n p = true → ∀ i, i < n → p i = true
  | 0, _, _, i, hi => by omega
  | n + 1, p, h, i, hi => by
    simp only [allB, Bool.and_eq_true] at h
    rcases Nat.lt_or_ge i n with h1 | h1
    · exact allB_spec h.2 i h1
    · obtain rfl : i = n := by omega
      exact h.1
def asI (k : IntKind) : AV → Option Int
  | .v (.int k' n) => (match sameK k k' with | true => some n | false => none)
  | _ => none
def asS : AV → Option ByteArray
  | .v (.string s) => some s
  | _ => none
def asBo : AV → Option Bool
  | .v (.bool b) => some b
  | _ => none
def asSl : AV → Option SV
  | .v (.slice a l c) => some ⟨a, l, c⟩
  | _ => none
theorem asSl_some {x : AV} {s : SV} (h : asSl x = some s) : x = .v (.slice s.a s.len s.cap) := by
  unfold asSl at h
  split at h
  · cases h; rfl
  · cases h
theorem asI_some {k : IntKind} {x : AV} {n : Int} (h : asI k x = some n) : x = .v (.int k n) := by
  unfold asI at h
  split at h
  · split at h
    · rename_i hk; obtain rfl := sameK_eq hk; cases h; rfl
    · cases h
  · cases h
theorem asS_some {x : AV} {s : ByteArray} (h : asS x = some s) : x = .v (.string s) := by
  unfold asS at h
  split at h
  · cases h; rfl
  · cases h
theorem asBo_some {x : AV} {b : Bool} (h : asBo x = some b) : x = .v (.bool b) := by
  unfold asBo at h
  split at h
  · cases h; rfl
  · cases h
def Col.ofInts (k : IntKind) (n : Nat) : Col → Option (Nat → Int)
  | .ints k' g => (match sameK k k' with | true => some g | false => none)
  | .any h => (match allB n fun i => (asI k (h i)).isSome with | true => some fun i => (asI k (h i)).getD 0 | false => none)
  | _ => none
def Col.ofStrs (n : Nat) : Col → Option (Nat → ByteArray)
  | .strs g => some g
  | .any h => (match allB n fun i => (asS (h i)).isSome with | true => some fun i => (asS (h i)).getD ByteArray.empty | false => none)
  | _ => none
def Col.ofBools (n : Nat) : Col → Option (Nat → Bool)
  | .bools g => some g
  | .any h => (match allB n fun i => (asBo (h i)).isSome with | true => some fun i => (asBo (h i)).getD false | false => none)
  | _ => none
def Col.ofSlcs (n : Nat) : Col → Option (Nat → SV)
  | .slcs g => some g
  | .any h => (match allB n fun i => (asSl (h i)).isSome with | true => some fun i => (asSl (h i)).getD ⟨none, 0, 0⟩ | false => none)
  | _ => none
theorem Col.ofSlcs_at {n : Nat} {c : Col} {g : Nat → SV} (h : c.ofSlcs n = some g) : ∀ i, i < n → c.at i = .v (.slice (g i).a (g i).len (g i).cap) := by
  intro i hi
  unfold Col.ofSlcs at h
  split at h
  · cases h; rfl
  · rename_i f
    split at h
    · rename_i ha
      cases h
      have ha' := allB_spec ha i hi
      cases hx : asSl (f i) with
      | none => rw [hx] at ha'; cases ha'
      | some m =>
        have e := asSl_some hx
        simp only [Col.at, hx, Option.getD_some]
        exact e
    · cases h
  · cases h
def slcs2 (k : Nat) : Col → Col → Option ((Nat → SV) × (Nat → SV))
  | .slcs g, y => (match y.ofSlcs k with | some h => some (g, h) | none => none)
  | _, _ => none
theorem slcs2_at {k : Nat} {x y : Col} {p : (Nat → SV) × (Nat → SV)} (h : slcs2 k x y = some p) : (∀ i, x.at i = .v (.slice (p.1 i).a (p.1 i).len (p.1 i).cap)) ∧ ∀ i, i < k → y.at i = .v (.slice (p.2 i).a (p.2 i).len (p.2 i).cap) := by
  unfold slcs2 at h
  split at h
  · split at h
    · rename_i g y h' hh; cases h; exact ⟨fun i => rfl, Col.ofSlcs_at hh⟩
    · cases h
  · cases h
theorem Col.ofInts_at {k : IntKind} {n : Nat} {c : Col} {g : Nat → Int} (h : c.ofInts k n = some g) : ∀ i, i < n → c.at i = .v (.int k (g i)) := by
  intro i hi
  unfold Col.ofInts at h
  split at h
  · split at h
    · rename_i hk; obtain rfl := sameK_eq hk; cases h; rfl
    · cases h
  · rename_i f
    split at h
    · rename_i ha
      cases h
      have ha' := allB_spec ha i hi
      cases hx : asI k (f i) with
      | none => rw [hx] at ha'; cases ha'
      | some m =>
        have e := asI_some hx
        simp only [Col.at, hx, Option.getD_some]
        exact e
    · cases h
  · cases h
theorem Col.ofStrs_at {n : Nat} {c : Col} {g : Nat → ByteArray} (h : c.ofStrs n = some g) : ∀ i, i < n → c.at i = .v (.string (g i)) := by
  intro i hi
  unfold Col.ofStrs at h
  split at h
  · cases h; rfl
  · rename_i f
    split at h
    · rename_i ha
      cases h
      have ha' := allB_spec ha i hi
      cases hx : asS (f i) with
      | none => rw [hx] at ha'; cases ha'
      | some m =>
        have e := asS_some hx
        simp only [Col.at, hx, Option.getD_some]
        exact e
    · cases h
  · cases h
theorem Col.ofBools_at {n : Nat} {c : Col} {g : Nat → Bool} (h : c.ofBools n = some g) : ∀ i, i < n → c.at i = .v (.bool (g i)) := by
  intro i hi
  unfold Col.ofBools at h
  split at h
  · cases h; rfl
  · rename_i f
    split at h
    · rename_i ha
      cases h
      have ha' := allB_spec ha i hi
      cases hx : asBo (f i) with
      | none => rw [hx] at ha'; cases ha'
      | some m =>
        have e := asBo_some hx
        simp only [Col.at, hx, Option.getD_some]
        exact e
    · cases h
  · cases h
def joinCol (len k : Nat) (old new : Col) (z : AV) : Option Col :=
  match z with
  | .v (.int kd n) =>
    (match old.ofInts kd len, new.ofInts kd k with
     | some g, some h => some (.ints kd fun i => if i < len then g i else if i < len + k then h (i - len) else n)
     | _, _ => none)
  | .v (.string s) =>
    (match old.ofStrs len, new.ofStrs k with
     | some g, some h => some (.strs fun i => if i < len then g i else if i < len + k then h (i - len) else s)
     | _, _ => none)
  | .v (.bool b) =>
    (match old.ofBools len, new.ofBools k with
     | some g, some h => some (.bools fun i => if i < len then g i else if i < len + k then h (i - len) else b)
     | _, _ => none)
  | .v (.slice a l c) =>
    (match slcs2 k old new with
     | some p => some (.slcs fun i => if i < len then p.1 i else if i < len + k then p.2 (i - len) else ⟨a, l, c⟩)
     | none => some (.any fun i => if i < len then old.at i else if i < len + k then new.at (i - len) else .v (.slice a l c)))
  | z => some (.any fun i => if i < len then old.at i else if i < len + k then new.at (i - len) else z)
theorem joinCol_at {len k : Nat} {old new c : Col} {z : AV} (h : joinCol len k old new z = some c) (i : Nat) :
    c.at i = if i < len then old.at i else if i < len + k then new.at (i - len) else z := by
  unfold joinCol at h
  split at h
  · split at h
    · rename_i g h' hg hh
      cases h
      simp only [Col.at]
      split
      · rename_i hi; exact (Col.ofInts_at hg i hi).symm
      · split
        · rename_i hi1 hi2; exact (Col.ofInts_at hh (i - len) (by omega)).symm
        · rfl
    · cases h
  · split at h
    · rename_i g h' hg hh
      cases h
      simp only [Col.at]
      split
      · rename_i hi; exact (Col.ofStrs_at hg i hi).symm
      · split
        · rename_i hi1 hi2; exact (Col.ofStrs_at hh (i - len) (by omega)).symm
        · rfl
    · cases h
  · split at h
    · rename_i g h' hg hh
      cases h
      simp only [Col.at]
      split
      · rename_i hi; exact (Col.ofBools_at hg i hi).symm
      · split
        · rename_i hi1 hi2; exact (Col.ofBools_at hh (i - len) (by omega)).symm
        · rfl
    · cases h
  · split at h
    · rename_i p hp
      obtain ⟨h1, h2⟩ := slcs2_at hp
      cases h
      simp only [Col.at]
      split
      · rename_i hi; exact (h1 i).symm
      · split
        · rename_i hi1 hi2; exact (h2 (i - len) (by omega)).symm
        · rfl
    · cases h; rfl
  · cases h; rfl
def joinCols (len k : Nat) : List Col → List Col → List AV → Option (List Col)
  | [], [], [] => some []
  | c :: cs, d :: ds, z :: zs =>
    (match joinCol len k c d z, joinCols len k cs ds zs with
     | some x, some xs => some (x :: xs)
     | _, _ => none)
  | _, _, _ => none
theorem joinCols_row {len k : Nat} : ∀ {cs ds : List Col} {zs : List AV} {xs : List Col}, joinCols len k cs ds zs = some xs →
    xs.length = zs.length ∧ cs.length = zs.length ∧ ds.length = zs.length ∧ ∀ i, rowOf xs i = if i < len then rowOf cs i else if i < len + k then rowOf ds (i - len) else zs
  | [], [], [], xs, h => by cases h; exact ⟨rfl, rfl, rfl, fun i => by simp [rowOf]⟩
  | c :: cs, d :: ds, z :: zs, xs, h => by
    simp only [joinCols] at h
    split at h
    · rename_i x xs' hx hxs
      cases h
      obtain ⟨h1, h2, h3, h4⟩ := joinCols_row hxs
      refine ⟨by simp [h1], by simp [h2], by simp [h3], fun i => ?_⟩
      simp only [rowOf, joinCol_at hx i, h4 i]
      split
      · rfl
      · split <;> rfl
    · cases h
  | [], _ :: _, _, _, h => by cases h
  | [], [], _ :: _, _, h => by cases h
  | _ :: _, [], _, _, h => by cases h
  | _ :: _, _ :: _, [], _, h => by cases h
def putCol (b k : Nat) (old new : Col) : Option Col :=
  match old with
  | .ints kd g => (match new.ofInts kd k with | some h => some (.ints kd fun q => if b ≤ q ∧ q < b + k then h (q - b) else g q) | none => none)
  | .strs g => (match new.ofStrs k with | some h => some (.strs fun q => if b ≤ q ∧ q < b + k then h (q - b) else g q) | none => none)
  | .bools g => (match new.ofBools k with | some h => some (.bools fun q => if b ≤ q ∧ q < b + k then h (q - b) else g q) | none => none)
  | .slcs g => (match new.ofSlcs k with | some h => some (.slcs fun q => if b ≤ q ∧ q < b + k then h (q - b) else g q) | none => some (.any fun q => if b ≤ q ∧ q < b + k then new.at (q - b) else .v (.slice (g q).a (g q).len (g q).cap)))
  | .any g => some (.any fun q => if b ≤ q ∧ q < b + k then new.at (q - b) else g q)
theorem putCol_at {b k : Nat} {old new c : Col} (h : putCol b k old new = some c) (q : Nat) : c.at q = if b ≤ q ∧ q < b + k then new.at (q - b) else old.at q := by
  unfold putCol at h
  split at h
  · split at h
    · rename_i g h' hh
      cases h
      simp only [Col.at]
      split
      · rename_i hi; exact (Col.ofInts_at hh (q - b) (by omega)).symm
      · rfl
    · cases h
  · split at h
    · rename_i g h' hh
      cases h
      simp only [Col.at]
      split
      · rename_i hi; exact (Col.ofStrs_at hh (q - b) (by omega)).symm
      · rfl
    · cases h
  · split at h
    · rename_i g h' hh
      cases h
      simp only [Col.at]
      split
      · rename_i hi; exact (Col.ofBools_at hh (q - b) (by omega)).symm
      · rfl
    · cases h
  · split at h
    · rename_i g h' hh
      cases h
      simp only [Col.at]
      split
      · rename_i hi; exact (Col.ofSlcs_at hh (q - b) (by omega)).symm
      · rfl
    · cases h; rfl
  · cases h; rfl
def putCols (b k : Nat) : List Col → List Col → Option (List Col)
  | [], [] => some []
  | c :: cs, d :: ds =>
    (match putCol b k c d, putCols b k cs ds with
     | some x, some xs => some (x :: xs)
     | _, _ => none)
  | _, _ => none
theorem putCols_row {b k : Nat} : ∀ {cs ds xs : List Col}, putCols b k cs ds = some xs →
    xs.length = cs.length ∧ ds.length = cs.length ∧ ∀ q, rowOf xs q = if b ≤ q ∧ q < b + k then rowOf ds (q - b) else rowOf cs q
  | [], [], xs, h => by cases h; exact ⟨rfl, rfl, fun q => by simp [rowOf]⟩
  | c :: cs, d :: ds, xs, h => by
    simp only [putCols] at h
    split at h
    · rename_i x xs' hx hxs
      cases h
      obtain ⟨h1, h2, h3⟩ := putCols_row hxs
      refine ⟨by simp [h1], by simp [h2], fun q => ?_⟩
      simp only [rowOf, putCol_at hx q, h3 q]
      split <;> rfl
    · cases h
  | [], _ :: _, _, h => by cases h
  | _ :: _, [], _, h => by cases h
def oneCols : List Col → Nat → Prop
  | [], _ => True
  | .any h :: cs, k => (∀ i, i < k → (h i).one = true) ∧ oneCols cs k
  | _ :: cs, k => oneCols cs k
theorem oneCols_row : ∀ {cs : List Col} {k : Nat}, oneCols cs k → ∀ i, i < k → ∀ x ∈ rowOf cs i, x.one = true
  | [], _, _, _, _, x, hx => by simp [rowOf] at hx
  | c :: cs, k, h, i, hi, x, hx => by
    simp only [rowOf, List.mem_cons] at hx
    have hr : oneCols cs k := by cases c <;> first | exact h | exact h.2
    rcases hx with rfl | hx
    · cases c with
      | any g => exact h.1 i hi
      | _ => rfl
    · exact oneCols_row hr i hi x hx
def srcK (tab : Tab) (H : HH) (sz : Nat) (tx : TypeId) (x : AV) (K : Nat → List Col → Prop) : Prop :=
  match tab.get tx, x with
  | some ⟨_, _, _, .slice _, _⟩, .sl id n r sz' k _ => ck (Nat.beq sz sz') <|
    (match nth H id with
     | some ⟨m, .rows N cs _, _⟩ => ck (Nat.beq cs.length sz) <| n = m ∧ r + k ≤ N ∧ oneCols (shiftCols cs r) k ∧ K k (shiftCols cs r)
     | some ⟨m, .cells l _, _⟩ => ck (Nat.ble ((r + k) * sz) l.length && ((l.drop (r * sz)).take (k * sz)).all AV.one) <| n = m ∧ K k (cellCols l sz r (List.range sz))
     | _ => False)
  | some ⟨_, _, _, .slice _, _⟩, .v (.slice _ 0 _) => K 0 (zcols (List.replicate sz (.v undef)))
  | some ⟨_, _, _, .slice _, _⟩, .vl id n o r sz' k _ => ck (Nat.beq sz sz') <|
    (match nth H id with
     | some ⟨m, .view o' N cs, _⟩ => ck (Nat.beq cs.length sz) <| n = m ∧ o = o' ∧ r + k ≤ N ∧ oneCols (shiftCols cs r) k ∧ K k (shiftCols cs r)
     | _ => False)
  | some ⟨_, _, _, .slice _, _⟩, .os id _ n o r sz' k _ => ck (Nat.beq sz sz') <|
    (match nth H id with
     | some ⟨m, .lst o' N cs _ _, _⟩ => ck (Nat.beq cs.length sz) <| n = m ∧ o = o' ∧ r + k ≤ N ∧ oneCols (shiftCols cs r) k ∧ K k (shiftCols cs r)
     | _ => False)
  | some ⟨_, _, _, .str, _⟩, .v (.string s) => ck (Nat.beq sz 1) <| K s.size [.ints .u8 (byteAt s)]
  | _, _ => False
theorem mul_split {p k sz : Nat} (h : p < k * sz) : p / sz < k ∧ p % sz < sz ∧ p = (p / sz) * sz + p % sz := by
  have hs : 0 < sz := by
    rcases Nat.eq_zero_or_pos sz with h1 | h1
    · subst h1; omega
    · exact h1
  refine ⟨(Nat.div_lt_iff_lt_mul hs).2 h, Nat.mod_lt _ hs, ?_⟩
  have := Nat.div_add_mod p sz
  rw [Nat.mul_comm] at this
  omega
theorem row_idx {i j k sz : Nat} (hi : i < k) (hj : j < sz) : i * sz + j < k * sz := by
  have : (i + 1) * sz ≤ k * sz := Nat.mul_le_mul_right _ hi
  rw [Nat.add_mul] at this
  omega
theorem srcK_sound {P : Program} {tab : Tab} (ht : TabOk P tab) {H : HH} {sz tx : Nat} {x : AV} {K : Nat → List Col → Prop} (h : srcK tab H sz tx x K) :
    ∃ k cs, K k cs ∧ cs.length = sz ∧ ∀ w, HoldsH H w → ∃ news, Src P sz tx x.den k news w ∧ ∀ i, i < k → ∀ j c, (rowOf cs i)[j]? = some c → news[i * sz + j]? = some c.den := by
  unfold srcK at h
  split at h
  · rename_i e _ id n r sz' k cap htx
    have hk := (ht.get htx).desc
    simp only [DescOk] at hk
    have g_ := ck_spec h
    clear h
    obtain ⟨hsz, h⟩ := g_
    obtain rfl := Nat.eq_of_beq_eq_true hsz
    split at h
    · rename_i m N cs ty own hb
      have g_ := ck_spec h
      clear h
      obtain ⟨hcs, rfl, hrk, hone, h⟩ := g_
      have hcs := Nat.eq_of_beq_eq_true hcs
      refine ⟨_, _, h, by simp [hcs], fun w hw => ?_⟩
      rw [nth_eq] at hb
      obtain ⟨c, hc, hcl, hcc⟩ := hw.all id _ hb
      rw [hcs] at hcl
      have hmul : (r + k) * sz ≤ N * sz := Nat.mul_le_mul_right _ hrk
      rw [Nat.add_mul] at hmul
      have hlen : ((c.drop (r * sz)).take (k * sz)).length = k * sz := by simp; omega
      have hget : ∀ p, p < k * sz → ((c.drop (r * sz)).take (k * sz))[p]? = c[r * sz + p]? := fun p hp => by
        rw [List.getElem?_take, if_pos hp, List.getElem?_drop]
      have hrow : ∀ i, i < k → ∀ j y, (rowOf (shiftCols cs r) i)[j]? = some y → ((c.drop (r * sz)).take (k * sz))[i * sz + j]? = some y.den := by
        intro i hi j y hy
        have hj : j < sz := by
          rcases Nat.lt_or_ge j sz with h1 | h1
          · exact h1
          · rw [List.getElem?_eq_none (by simp [hcs]; exact h1)] at hy; cases hy
        rw [hget _ (row_idx hi hj)]
        rw [shiftCols_row] at hy
        have := hcc (r + i) (by omega) j y hy
        rw [hcs, Nat.add_mul, Nat.add_assoc] at this
        exact this
      refine ⟨_, Src.ofSlice w hk ⟨n, r * sz, none⟩ k cap _ hlen (fun j u hu => ?_) (fun u hu => ?_), hrow⟩
      · have hj : j < k * sz := by
          rcases Nat.lt_or_ge j (k * sz) with h1 | h1
          · exact h1
          · rw [List.getElem?_eq_none (by rw [hlen]; exact h1)] at hu; cases hu
        rw [addr_add, cell_of hc, ← hget j hj]
        exact hu
      · obtain ⟨p, hp⟩ := List.getElem?_of_mem hu
        have hpl : p < k * sz := by
          rcases Nat.lt_or_ge p (k * sz) with h1 | h1
          · exact h1
          · rw [List.getElem?_eq_none (by rw [hlen]; exact h1)] at hp; cases hp
        obtain ⟨h1, h2, h3⟩ := mul_split hpl
        have hy : ∃ y, (rowOf (shiftCols cs r) (p / sz))[p % sz]? = some y := ⟨_, List.getElem?_eq_getElem (by simp [hcs]; exact h2)⟩
        obtain ⟨y, hy⟩ := hy
        have := hrow _ h1 _ y hy
        rw [← h3, hp] at this
        cases this
        exact AV.one_den (oneCols_row hone _ h1 y (List.mem_of_getElem? hy))
    · rename_i m l ty own hb
      have g_ := ck_spec h
      clear h
      obtain ⟨hck, rfl, h⟩ := g_
      simp only [Bool.and_eq_true] at hck
      obtain ⟨hle, hone⟩ := hck
      have hle := Nat.le_of_ble_eq_true hle
      rw [Nat.add_mul] at hle
      refine ⟨_, _, h, by simp, fun w hw => ?_⟩
      rw [nth_eq] at hb
      have hc := hw.all id _ hb
      simp only [Cont.holds] at hc
      have hlen : (denL ((l.drop (r * sz)).take (k * sz))).length = k * sz := by simp; omega
      have hget : ∀ p, p < k * sz → (denL ((l.drop (r * sz)).take (k * sz)))[p]? = (denL l)[r * sz + p]? := fun p hp => by
        rw [denL_take, denL_drop, List.getElem?_take, if_pos hp, List.getElem?_drop]
      refine ⟨_, Src.ofSlice w hk ⟨n, r * sz, none⟩ k cap _ hlen (fun j u hu => ?_) (all_one_den hone), fun i hi j y hy => ?_⟩
      · have hj : j < k * sz := by
          rcases Nat.lt_or_ge j (k * sz) with h1 | h1
          · exact h1
          · rw [List.getElem?_eq_none (by rw [hlen]; exact h1)] at hu; cases hu
        rw [addr_add, cell_of hc, ← hget j hj]
        exact hu
      · have hj : j < sz := by
          rcases Nat.lt_or_ge j sz with h1 | h1
          · exact h1
          · rw [List.getElem?_eq_none (by simp; exact h1)] at hy; cases hy
        have hidx := row_idx hi hj
        rw [hget _ hidx, denL_map, List.getElem?_map]
        rw [cellCols_row, List.getElem?_map, List.getElem?_range hj] at hy
        simp only [Option.map_some, Option.some.injEq] at hy
        rw [Nat.add_mul, Nat.add_assoc] at hy
        have hlt : r * sz + (i * sz + j) < l.length := by omega
        rw [List.getElem?_eq_getElem hlt] at hy ⊢
        simp only [Option.getD_some] at hy
        rw [hy]
        rfl
    · exact h.elim
  · rename_i e _ a0 cap htx
    have hk := (ht.get htx).desc
    simp only [DescOk] at hk
    refine ⟨_, _, h, by simp, fun w _ => ?_⟩
    cases a0 with
    | none => exact ⟨[], Src.ofNil w hk cap, fun i hi => by omega⟩
    | some a => exact ⟨[], Src.ofSlice w hk a 0 cap [] (by simp) (fun j u hu => by simp at hu) (fun u hu => by cases hu), fun i hi => by omega⟩
  · rename_i e _ id n o r sz' k cap htx
    have hk := (ht.get htx).desc
    simp only [DescOk] at hk
    have g_ := ck_spec h
    clear h
    obtain ⟨hsz, h⟩ := g_
    obtain rfl := Nat.eq_of_beq_eq_true hsz
    split at h
    · rename_i m o' N cs own hb
      have g_ := ck_spec h
      clear h
      obtain ⟨hcs, rfl, rfl, hrk, hone, h⟩ := g_
      have hcs := Nat.eq_of_beq_eq_true hcs
      refine ⟨_, _, h, by simp [hcs], fun w hw => ?_⟩
      rw [nth_eq] at hb
      obtain ⟨c, ty, fz, hc, hcc⟩ := hw.all id _ hb
      have hrow0 : ∀ i, i < k → ∀ j y, (rowOf (shiftCols cs r) i)[j]? = some y → c[o + r * sz + (i * sz + j)]? = some y.den := by
        intro i hi j y hy
        rw [shiftCols_row] at hy
        have := hcc (r + i) (by omega) j y hy
        rw [hcs, Nat.add_mul] at this
        rw [← this]
        congr 1
        omega
      have hin : ∀ p, p < k * sz → o + r * sz + p < c.length := fun p hp => by
        obtain ⟨h1, h2, h3⟩ := mul_split hp
        have hy : ∃ y, (rowOf (shiftCols cs r) (p / sz))[p % sz]? = some y := ⟨_, List.getElem?_eq_getElem (by simp [hcs]; exact h2)⟩
        obtain ⟨y, hy⟩ := hy
        have := hrow0 _ h1 _ y hy
        rw [← h3] at this
        exact (List.getElem?_eq_some_iff.1 this).1
      have hlen : ((c.drop (o + r * sz)).take (k * sz)).length = k * sz := by
        rcases Nat.eq_zero_or_pos (k * sz) with h0 | h0
        · simp [h0]
        · have := hin (k * sz - 1) (by omega)
          simp; omega
      have hget : ∀ p, p < k * sz → ((c.drop (o + r * sz)).take (k * sz))[p]? = c[o + r * sz + p]? := fun p hp => by
        rw [List.getElem?_take, if_pos hp, List.getElem?_drop]
      have hrow : ∀ i, i < k → ∀ j y, (rowOf (shiftCols cs r) i)[j]? = some y → ((c.drop (o + r * sz)).take (k * sz))[i * sz + j]? = some y.den := by
        intro i hi j y hy
        have hj : j < sz := by
          rcases Nat.lt_or_ge j sz with h1 | h1
          · exact h1
          · rw [List.getElem?_eq_none (by simp [hcs]; exact h1)] at hy; cases hy
        rw [hget _ (row_idx hi hj)]
        exact hrow0 i hi j y hy
      refine ⟨_, Src.ofSlice w hk ⟨n, o + r * sz, none⟩ k cap _ hlen (fun j u hu => ?_) (fun u hu => ?_), hrow⟩
      · have hj : j < k * sz := by
          rcases Nat.lt_or_ge j (k * sz) with h1 | h1
          · exact h1
          · rw [List.getElem?_eq_none (by rw [hlen]; exact h1)] at hu; cases hu
        rw [addr_add]
        have := hget j hj
        rw [hu] at this
        simp [World.cell?, hc, ← this]
      · obtain ⟨p, hp⟩ := List.getElem?_of_mem hu
        have hpl : p < k * sz := by
          rcases Nat.lt_or_ge p (k * sz) with h1 | h1
          · exact h1
          · rw [List.getElem?_eq_none (by rw [hlen]; exact h1)] at hp; cases hp
        obtain ⟨h1, h2, h3⟩ := mul_split hpl
        have hy : ∃ y, (rowOf (shiftCols cs r) (p / sz))[p % sz]? = some y := ⟨_, List.getElem?_eq_getElem (by simp [hcs]; exact h2)⟩
        obtain ⟨y, hy⟩ := hy
        have := hrow _ h1 _ y hy
        rw [← h3, hp] at this
        cases this
        exact AV.one_den (oneCols_row hone _ h1 y (List.mem_of_getElem? hy))
    · exact h.elim
  · rename_i e _ id a0 n o r sz' k cap htx
    have hk := (ht.get htx).desc
    simp only [DescOk] at hk
    have g_ := ck_spec h
    clear h
    obtain ⟨hsz, h⟩ := g_
    obtain rfl := Nat.eq_of_beq_eq_true hsz
    split at h
    · rename_i m o' N cs S_ wr own hb
      have g_ := ck_spec h
      clear h
      obtain ⟨hcs, rfl, rfl, hrk, hone, h⟩ := g_
      have hcs := Nat.eq_of_beq_eq_true hcs
      by_cases hk0 : k = 0
      · subst hk0
        refine ⟨_, _, h, by simp [hcs], fun w hw => ⟨[], ?_, fun i hi => by omega⟩⟩
        show Src P sz tx (.slice a0 0 cap) 0 [] w
        cases a0 with
        | none => exact Src.ofNil w hk cap
        | some a => exact Src.ofSlice w hk a 0 cap [] (by simp) (fun j u hu => by simp at hu) (fun u hu => by cases hu)
      have hden : (AV.os id a0 n o r sz k cap).den = .slice (some ⟨n, o + r * sz, none⟩) k cap := by simp [AV.den, hk0]
      rw [hden]
      refine ⟨_, _, h, by simp [hcs], fun w hw => ?_⟩
      rw [nth_eq] at hb
      obtain ⟨_, c, ty, fz, hc, hcc⟩ := (hw.all id _ hb).2.1 (by omega)
      have hrow0 : ∀ i, i < k → ∀ j y, (rowOf (shiftCols cs r) i)[j]? = some y → c[o + r * sz + (i * sz + j)]? = some y.den := by
        intro i hi j y hy
        rw [shiftCols_row] at hy
        have := hcc (r + i) (by omega) j y hy
        rw [hcs, Nat.add_mul] at this
        rw [← this]
        congr 1
        omega
      have hin : ∀ p, p < k * sz → o + r * sz + p < c.length := fun p hp => by
        obtain ⟨h1, h2, h3⟩ := mul_split hp
        have hy : ∃ y, (rowOf (shiftCols cs r) (p / sz))[p % sz]? = some y := ⟨_, List.getElem?_eq_getElem (by simp [hcs]; exact h2)⟩
        obtain ⟨y, hy⟩ := hy
        have := hrow0 _ h1 _ y hy
        rw [← h3] at this
        exact (List.getElem?_eq_some_iff.1 this).1
      have hlen : ((c.drop (o + r * sz)).take (k * sz)).length = k * sz := by
        rcases Nat.eq_zero_or_pos (k * sz) with h0 | h0
        · simp [h0]
        · have := hin (k * sz - 1) (by omega)
          simp; omega
      have hget : ∀ p, p < k * sz → ((c.drop (o + r * sz)).take (k * sz))[p]? = c[o + r * sz + p]? := fun p hp => by
        rw [List.getElem?_take, if_pos hp, List.getElem?_drop]
      have hrow : ∀ i, i < k → ∀ j y, (rowOf (shiftCols cs r) i)[j]? = some y → ((c.drop (o + r * sz)).take (k * sz))[i * sz + j]? = some y.den := by
        intro i hi j y hy
        have hj : j < sz := by
          rcases Nat.lt_or_ge j sz with h1 | h1
          · exact h1
          · rw [List.getElem?_eq_none (by simp [hcs]; exact h1)] at hy; cases hy
        rw [hget _ (row_idx hi hj)]
        exact hrow0 i hi j y hy
      refine ⟨_, Src.ofSlice w hk ⟨n, o + r * sz, none⟩ k cap _ hlen (fun j u hu => ?_) (fun u hu => ?_), hrow⟩
      · have hj : j < k * sz := by
          rcases Nat.lt_or_ge j (k * sz) with h1 | h1
          · exact h1
          · rw [List.getElem?_eq_none (by rw [hlen]; exact h1)] at hu; cases hu
        rw [addr_add]
        have := hget j hj
        rw [hu] at this
        simp [World.cell?, hc, ← this]
      · obtain ⟨p, hp⟩ := List.getElem?_of_mem hu
        have hpl : p < k * sz := by
          rcases Nat.lt_or_ge p (k * sz) with h1 | h1
          · exact h1
          · rw [List.getElem?_eq_none (by rw [hlen]; exact h1)] at hp; cases hp
        obtain ⟨h1, h2, h3⟩ := mul_split hpl
        have hy : ∃ y, (rowOf (shiftCols cs r) (p / sz))[p % sz]? = some y := ⟨_, List.getElem?_eq_getElem (by simp [hcs]; exact h2)⟩
        obtain ⟨y, hy⟩ := hy
        have := hrow _ h1 _ y hy
        rw [← h3, hp] at this
        cases this
        exact AV.one_den (oneCols_row hone _ h1 y (List.mem_of_getElem? hy))
    · exact h.elim
  · rename_i _ s htx
    have hk := (ht.get htx).desc
    simp only [DescOk] at hk
    have g_ := ck_spec h
    clear h
    obtain ⟨hsz, h⟩ := g_
    obtain rfl := Nat.eq_of_beq_eq_true hsz
    refine ⟨_, _, h, rfl, fun w _ => ⟨_, Src.ofString w hk s, fun i hi j c hc => ?_⟩⟩
    cases j with
    | zero =>
      simp [rowOf, Col.at] at hc
      subst hc
      have hlt : i < s.data.size := hi
      simp only [byteCells, AV.den, byteAt, Nat.mul_one, Nat.add_zero, List.getElem?_map, Array.getElem?_toList, Array.getElem?_eq_getElem hlt, Option.map_some, Option.getD_some]
    | succ j => simp [rowOf] at hc
  · exact h.elim
def growK (H : HH) (e : TypeId) (ei : TI) (len cap k : Nat) (old new : List Col) (K : AV → HH → Prop) : Prop :=
  (len + k ≤ 9223372036854775807 ∧ ((len + k) + (len + k) / 4 + 192) * ei.bytes ≤ 281474976710656) ∧
  (match joinCols len k old new ei.zero.cells with
   | some cs => ∀ m c, len + k ≤ c → K (.sl H.length m 0 ei.sz (len + k) c) (H ++ [⟨m, .rows c cs e, true⟩])
   | none => False)
def appendK (tab : Tab) (H : HH) (at_ : List TypeId) (args : List AV) (K : AV → HH → Prop) : Prop :=
  match at_, args with
  | [t, tx], [s, x] =>
    (match tab.get t with
     | some ⟨_, _, _, .slice e, _⟩ =>
       (match tab.get e with
        | some ei => srcK tab H ei.sz tx x fun k new =>
          (match s with
           | .v (.slice none 0 0) => br (Nat.beq k 0) (K (.v (.slice none 0 0)) H) (growK H e ei 0 0 k (zcols ei.zero.cells) new K)
           | .sl id n r sz len cap => ck (Nat.beq sz ei.sz) <|
             (match nth H id with
              | some ⟨m, .rows N cs ty, own⟩ => ck (Nat.beq cs.length sz) <| n = m ∧ r + len ≤ N ∧
                br (Nat.ble (len + k) cap)
                  (br (Nat.beq k 0) (K (.sl id n r sz len cap) H)
                    (ck own <| r + len + k ≤ N ∧ (match putCols (r + len) k cs new with | some cs' => K (.sl id n r sz (len + k) cap) (H.set id ⟨m, .rows N cs' ty, own⟩) | none => False)))
                  (growK H e ei len cap k (shiftCols cs r) new K)
              | some ⟨m, .cells l _, _⟩ => ck (Nat.ble ((r + len) * sz) l.length) <| n = m ∧
                br (Nat.ble (len + k) cap) (br (Nat.beq k 0) (K (.sl id n r sz len cap) H) False)
                  (growK H e ei len cap k (cellCols l sz r (List.range sz)) new K)
              | _ => False)
           | _ => False)
        | none => False)
     | _ => False)
  | _, _ => False
theorem zeroCells_den (z : List AV) (n : Nat) : (Builtin.zeroCells (denL z).toArray n).toList = denL (newCells z n) := by
  have := newCells_den z n
  simp only [Builtin.zeroCells, List.size_toArray, denL_length]
  rw [this]
theorem newCells_get (z : List AV) (n i j : Nat) (hi : i < n) (x : AV) (hx : z[j]? = some x) : (newCells z n)[i * z.length + j]? = some x := by
  have hj : j < z.length := by
    rcases Nat.lt_or_ge j z.length with h | h
    · exact h
    · rw [List.getElem?_eq_none h] at hx; cases hx
  have hm : (i * z.length + j) % z.length = j := by
    rw [Nat.add_comm, Nat.add_mul_mod_self_right, Nat.mod_eq_of_lt hj]
  unfold newCells
  rw [List.getElem?_map, List.getElem?_range (row_idx hi hj)]
  simp [hm, hx]
theorem growK_sound {P : Program} {tab : Tab} (ht : TabOk P tab) {w0 : World} {fp H : HH} {w : World} (hh : HeapOk w0 fp H w) {t tx ty e : Nat} {ei : TI} (hte : P.underlying t = some (.slice e)) (hei : tab.get e = some ei)
    {len cap k : Nat} {old new : List Col} {K : AV → HH → Prop} (h : growK H e ei len cap k old new K) (hg : cap < len + k) {a : Option Addr} {x : AV} {news : List Value} (hs : Src P ei.sz tx x.den k news w)
    (hnew : ∀ i, i < k → ∀ j c, (rowOf new i)[j]? = some c → news[i * ei.sz + j]? = some c.den)
    {olds : List Value} (hol : olds.length = len * ei.sz) (hold : (Builtin.firstCells ei.sz len (.slice a len cap)).run P w.drew = .ok olds.toArray w.drew)
    (hold' : ∀ i, i < len → ∀ j c, (rowOf old i)[j]? = some c → olds[i * ei.sz + j]? = some c.den) :
    ∃ v H' w', K v H' ∧ HeapOk w0 fp H' w' ∧ (Builtin.append_ #[t, tx] ty #[.slice a len cap, x.den]).run P w = .ok v.den w' ∧ Frm [] w w' := by
  obtain ⟨⟨h1, h2⟩, h⟩ := h
  have h2 := growslice_fits_wide hg h2
  split at h
  · rename_i cs hcs
    obtain ⟨info, hx, hxz, hxs, hxb⟩ := (ht.get hei).info'
    obtain ⟨j1, j2, j3, j4⟩ := joinCols_row hcs
    have hzl := (ht.get hei).zsz
    have hzc := AV.cells_den (ht.get hei).zok
    have hzc' : ei.zero.den.cells = (denL ei.zero.cells).toArray := by rw [← hzc]
    have hrun := run_append_grow_src w t tx ty e info ei.zero.den hte hx hxz a len cap olds (by rw [hxs]; exact hold) x.den k news (by rw [hxs]; exact hs) hg (by omega) (by rw [hxb]; exact h2)
    have hcap := grownCap_ge w (len + k) cap e
    generalize grownCap w (len + k) cap e = C at hrun hcap
    have hh1 : HeapOk w0 fp H w.drew := hh.same { heap := rfl, os := rfl, tape := rfl, output := rfl }
    refine ⟨_, _, _, h w.heap.size C hcap, hh1.alloc (.cells ((olds ++ news).toArray ++ Builtin.zeroCells ei.zero.den.cells (C - (len + k))) e) _ ?_, ?_, { os := rfl, tape := rfl, output := rfl, size := by simp, block := fun k hk _ => Go.RowKit.Below.heap_alloc _ _ _ hk }⟩
    · have hL : ((olds ++ news).toArray ++ Builtin.zeroCells ei.zero.den.cells (C - (len + k))).toList = olds ++ news ++ denL (newCells ei.zero.cells (C - (len + k))) := by
        rw [Array.toList_append, hzc', zeroCells_den]
      refine ⟨olds ++ news ++ denL (newCells ei.zero.cells (C - (len + k))), Held.plain ?_, ?_, fun i hi j y hy => ?_⟩
      · rw [← hL, Array.toArray_toList]
        exact alloc_at w.drew _
      · have : C = len + k + (C - (len + k)) := by omega
        simp only [List.length_append, hol, hs.newsLen, denL_length, newCells_length, hzl, j1]
        rw [this, Nat.add_mul, Nat.add_mul]
        simp
      · rw [j1, hzl]
        have hj : j < ei.sz := by
          rcases Nat.lt_or_ge j ei.sz with h1 | h1
          · exact h1
          · rw [List.getElem?_eq_none (by simp [j1, hzl]; exact h1)] at hy; cases hy
        rw [j4 i] at hy
        rw [List.append_assoc, List.getElem?_append, hol]
        by_cases c1 : i < len
        · rw [if_pos (row_idx c1 hj)]
          rw [if_pos c1] at hy
          exact hold' i c1 j y hy
        · have e1 : len * ei.sz ≤ i * ei.sz := Nat.mul_le_mul_right _ (by omega)
          rw [if_neg (by omega)]
          rw [if_neg c1] at hy
          obtain ⟨d, rfl⟩ : ∃ d, i = len + d := ⟨i - len, by omega⟩
          have e2 : (len + d) * ei.sz + j - len * ei.sz = d * ei.sz + j := by rw [Nat.add_mul]; omega
          rw [e2, List.getElem?_append, hs.newsLen]
          by_cases c2 : d < k
          · rw [if_pos (row_idx c2 hj)]
            rw [if_pos (by omega), show len + d - len = d by omega] at hy
            exact hnew d c2 j y hy
          · have e3 : k * ei.sz ≤ d * ei.sz := Nat.mul_le_mul_right _ (by omega)
            rw [if_neg (by omega)]
            rw [if_neg (by omega)] at hy
            obtain ⟨g, rfl⟩ : ∃ g, d = k + g := ⟨d - k, by omega⟩
            have e4 : (k + g) * ei.sz + j - k * ei.sz = g * ei.sz + j := by rw [Nat.add_mul]; omega
            rw [e4]
            have := newCells_get ei.zero.cells (C - (len + k)) g j (by omega) y hy
            rw [hzl] at this
            exact denL_get this
    · rw [hrun]
      simp [AV.den]
  · exact h.elim
theorem stored_setCells {P : Program} {w : World} {n o : Nat} {c xs : List Value} {ty : TypeId} (hc : Held w n c ty) (hl : o + xs.length ≤ c.length) (h1 : ∀ x ∈ xs, x.oneCell' = true) :
    Stored w (w.setCells n o xs) n (spliceV c o xs) ty := by
  obtain ⟨w', hr, hs⟩ := run_storeCells P xs w n o 0 c ty hc (by omega) h1
  have := run_storeCells_cells (P := P) n o xs 0 w (fun j hj => by
    rw [Nat.add_zero, cell_of hc]; simp; omega) (fun j hj => by rw [Nat.add_zero]; exact frozen_of hc _ (by omega)) h1
  simp only [Nat.add_zero] at this hs
  rw [this] at hr
  cases hr
  exact hs
theorem appendK_sound {P : Program} {tab : Tab} (ht : TabOk P tab) {w0 : World} {fp H : HH} {w : World} (hh : HeapOk w0 fp H w) {at_ : Array TypeId} {args : List AV} {K : AV → HH → Prop} (h : appendK tab H at_.toList args K) (ty : TypeId) :
    ∃ v H' w', K v H' ∧ HeapOk w0 fp H' w' ∧ (Builtin.append_ at_ ty (denL args).toArray).run P w = .ok v.den w' := by
  unfold appendK at h
  split at h
  · rename_i t tx s x hat
    have hat' : at_ = #[t, tx] := by apply Array.ext'; simpa using hat
    subst hat'
    split at h
    · rename_i e _ htt
      have hte := (ht.get htt).desc
      simp only [DescOk] at hte
      split at h
      · rename_i ei hei
        obtain ⟨info, hx, hxz, hxs, hxb⟩ := (ht.get hei).info'
        obtain ⟨k, new, h, hnl, hsrc⟩ := srcK_sound ht h
        obtain ⟨news, hs, hnew⟩ := hsrc w hh.hp
        have hs' : Src P info.size tx x.den k news w := by rw [hxs]; exact hs
        split at h
        · -- no row yet
          cases hk : Nat.beq k 0
          · rw [hk] at h
            have hk0 : k ≠ 0 := by intro e'; subst e'; cases hk
            obtain ⟨v, H', w', h1, h2, h3, _⟩ := growK_sound (ty := ty) ht hh hte hei h (by omega) (a := none) hs hnew (olds := []) (by simp) (run_firstCells_none w.drew ei.sz 0 0 0) (fun i hi => by omega)
            exact ⟨v, H', w', h1, h2, by simpa [denL, AV.den] using h3⟩
          · rw [hk] at h
            have hk0 := Nat.eq_of_beq_eq_true hk
            subst hk0
            have hn0 : news = [] := List.eq_nil_of_length_eq_zero (by rw [hs.newsLen]; simp)
            subst hn0
            have := run_append_nothing w t tx ty e info hte hx none 0 0 (Nat.le_refl _) x.den hs'
            exact ⟨_, H, w, h, hh, by simpa [denL, AV.den] using this⟩
        · rename_i id n r sz len cap _
          have g_ := ck_spec h
          clear h
          obtain ⟨hsz, h⟩ := g_
          obtain rfl := Nat.eq_of_beq_eq_true hsz
          have nothing : ∀ {len cap : Nat}, len + k ≤ cap → Nat.beq k 0 = true → (Builtin.append_ #[t, tx] ty #[.slice (some ⟨n, r * ei.sz, none⟩) len cap, x.den]).run P w = .ok (.slice (some ⟨n, r * ei.sz, none⟩) len cap) w := by
            intro len cap hle hk
            have hk0 := Nat.eq_of_beq_eq_true hk
            subst hk0
            have hn0 : news = [] := List.eq_nil_of_length_eq_zero (by rw [hs.newsLen]; simp)
            subst hn0
            exact run_append_nothing w t tx ty e info hte hx _ len cap (by omega) x.den hs'
          split at h
          · rename_i m N cs tyb own hb
            have g_ := ck_spec h
            clear h
            obtain ⟨hcs, rfl, hrl, h⟩ := g_
            have hcs := Nat.eq_of_beq_eq_true hcs
            rw [nth_eq] at hb
            obtain ⟨c, hc, hcl, hcc⟩ := hh.hp.all id _ hb
            rw [hcs] at hcl
            cases hle : Nat.ble (len + k) cap
            · rw [hle] at h
              have hlt : cap < len + k := by
                rcases Nat.lt_or_ge cap (len + k) with h1 | h1
                · exact h1
                · rw [Nat.ble_eq_true_of_le h1] at hle; cases hle
              have hmul : (r + len) * ei.sz ≤ N * ei.sz := Nat.mul_le_mul_right _ hrl
              rw [Nat.add_mul] at hmul
              have hlen : ((c.drop (r * ei.sz)).take (len * ei.sz)).length = len * ei.sz := by simp; omega
              have hget : ∀ p, p < len * ei.sz → ((c.drop (r * ei.sz)).take (len * ei.sz))[p]? = c[r * ei.sz + p]? := fun p hp => by
                rw [List.getElem?_take, if_pos hp, List.getElem?_drop]
              obtain ⟨v, H', w', h1, h2, h3, _⟩ := growK_sound (ty := ty) ht hh hte hei h hlt (a := some ⟨n, r * ei.sz, none⟩) hs hnew (olds := (c.drop (r * ei.sz)).take (len * ei.sz)) hlen
                (run_firstCells_some w.drew ei.sz len ⟨n, r * ei.sz, none⟩ len cap _ hlen (fun j u hu => by
                  have hj : j < len * ei.sz := by
                    rcases Nat.lt_or_ge j (len * ei.sz) with h1 | h1
                    · exact h1
                    · rw [List.getElem?_eq_none (by rw [hlen]; exact h1)] at hu; cases hu
                  rw [addr_add]
                  have := cell_of hc (r * ei.sz + j)
                  rw [← hget j hj, hu] at this
                  exact this))
                (fun i hi j y hy => by
                  have hj : j < ei.sz := by
                    rcases Nat.lt_or_ge j ei.sz with h1 | h1
                    · exact h1
                    · rw [List.getElem?_eq_none (by simp [hcs]; exact h1)] at hy; cases hy
                  rw [hget _ (row_idx hi hj)]
                  rw [shiftCols_row] at hy
                  have := hcc (r + i) (by omega) j y hy
                  rw [hcs, Nat.add_mul, Nat.add_assoc] at this
                  exact this)
              exact ⟨v, H', w', h1, h2, by simpa [denL, AV.den] using h3⟩
            · rw [hle, br_true] at h
              have hle := Nat.le_of_ble_eq_true hle
              cases hk : Nat.beq k 0
              · rw [hk, br_false] at h
                have g_ := ck_spec h
                clear h
                obtain ⟨rfl, hfit, h⟩ := g_
                split at h
                · rename_i cs' hcs'
                  obtain ⟨p1, p2, p3⟩ := putCols_row hcs'
                  have hmul : (r + len + k) * ei.sz ≤ N * ei.sz := Nat.mul_le_mul_right _ hfit
                  rw [Nat.add_mul] at hmul
                  have hnl' := hs.newsLen
                  have hst := stored_setCells (P := P) (o := (r + len) * ei.sz) (xs := news) hc (by omega) hs.one
                  have hrun := run_append_room_src w t tx ty e info hte hx n (r * ei.sz) len cap x.den k news hs' hle
                    (fun j hj => by rw [hxs, ← Nat.add_mul, cell_of hc]; simp; omega) (fun j hj => by rw [hxs, ← Nat.add_mul]; exact frozen_of hc _ (by omega))
                  rw [hxs, ← Nat.add_mul] at hrun
                  refine ⟨_, _, w.setCells n ((r + len) * ei.sz) news, h, ?_, by simpa [denL, AV.den] using hrun⟩
                  refine hh.turn hb rfl _ ?_ hst.os hst.tape hst.output hst.size hst.block
                  refine ⟨_, hst.at_, by simp [hcl, p1, hcs], fun q hq => ?_⟩
                  rw [p1, hcs, p3 q]
                  intro j y hy
                  have hj : j < ei.sz := by
                    rcases Nat.lt_or_ge j ei.sz with h1 | h1
                    · exact h1
                    · exfalso
                      split at hy
                      · rw [List.getElem?_eq_none (by simp [p2, hcs]; exact h1)] at hy; cases hy
                      · rw [List.getElem?_eq_none (by simp [hcs]; exact h1)] at hy; cases hy
                  rw [spliceV_get _ _ _ _ (by omega), hnl']
                  by_cases hq1 : r + len ≤ q ∧ q < r + len + k
                  · rw [if_pos hq1] at hy
                    obtain ⟨d, rfl⟩ : ∃ d, q = r + len + d := ⟨q - (r + len), by omega⟩
                    have hd : d < k := by omega
                    have hi := row_idx hd hj
                    have e1 : (r + len + d) * ei.sz + j = (r + len) * ei.sz + (d * ei.sz + j) := by rw [Nat.add_mul (r + len)]; omega
                    rw [e1, if_pos (by omega), show (r + len) * ei.sz + (d * ei.sz + j) - (r + len) * ei.sz = d * ei.sz + j by omega]
                    rw [show r + len + d - (r + len) = d by omega] at hy
                    exact hnew d hd j y hy
                  · rw [if_neg hq1] at hy
                    have hne : ¬ ((r + len) * ei.sz ≤ q * ei.sz + j ∧ q * ei.sz + j < (r + len) * ei.sz + k * ei.sz) := by
                      rcases Nat.lt_or_ge q (r + len) with h1 | h1
                      · have : (q + 1) * ei.sz ≤ (r + len) * ei.sz := Nat.mul_le_mul_right _ h1
                        rw [Nat.add_mul] at this; omega
                      · have h2 : r + len + k ≤ q := by omega
                        have : (r + len + k) * ei.sz ≤ q * ei.sz := Nat.mul_le_mul_right _ h2
                        rw [Nat.add_mul (r + len)] at this; omega
                    rw [if_neg hne]
                    have := hcc q hq j y hy
                    rw [hcs] at this
                    exact this
                · exact h.elim
              · rw [hk, br_true] at h
                exact ⟨_, H, w, h, hh, by simpa [denL, AV.den] using nothing hle hk⟩
          · rename_i m l tyb own hb
            have g_ := ck_spec h
            clear h
            obtain ⟨hrl, rfl, h⟩ := g_
            have hrl := Nat.le_of_ble_eq_true hrl
            rw [Nat.add_mul] at hrl
            rw [nth_eq] at hb
            have hc := hh.hp.all id _ hb
            simp only [Cont.holds] at hc
            cases hle : Nat.ble (len + k) cap
            · rw [hle] at h
              have hlt : cap < len + k := by
                rcases Nat.lt_or_ge cap (len + k) with h1 | h1
                · exact h1
                · rw [Nat.ble_eq_true_of_le h1] at hle; cases hle
              have hlen : (denL ((l.drop (r * ei.sz)).take (len * ei.sz))).length = len * ei.sz := by simp; omega
              have hget : ∀ p, p < len * ei.sz → (denL ((l.drop (r * ei.sz)).take (len * ei.sz)))[p]? = (denL l)[r * ei.sz + p]? := fun p hp => by
                rw [denL_take, denL_drop, List.getElem?_take, if_pos hp, List.getElem?_drop]
              obtain ⟨v, H', w', h1, h2, h3, _⟩ := growK_sound (ty := ty) ht hh hte hei h hlt (a := some ⟨n, r * ei.sz, none⟩) hs hnew (olds := denL ((l.drop (r * ei.sz)).take (len * ei.sz))) hlen
                (run_firstCells_some w.drew ei.sz len ⟨n, r * ei.sz, none⟩ len cap _ hlen (fun j u hu => by
                  have hj : j < len * ei.sz := by
                    rcases Nat.lt_or_ge j (len * ei.sz) with h1 | h1
                    · exact h1
                    · rw [List.getElem?_eq_none (by rw [hlen]; exact h1)] at hu; cases hu
                  rw [addr_add]
                  have := cell_of hc (r * ei.sz + j)
                  rw [← hget j hj, hu] at this
                  exact this))
                (fun i hi j y hy => by
                  have hj : j < ei.sz := by
                    rcases Nat.lt_or_ge j ei.sz with h1 | h1
                    · exact h1
                    · rw [List.getElem?_eq_none (by simp; exact h1)] at hy; cases hy
                  have hidx := row_idx hi hj
                  rw [hget _ hidx, denL_map, List.getElem?_map]
                  rw [cellCols_row, List.getElem?_map, List.getElem?_range hj] at hy
                  simp only [Option.map_some, Option.some.injEq] at hy
                  rw [Nat.add_mul, Nat.add_assoc] at hy
                  have hlt : r * ei.sz + (i * ei.sz + j) < l.length := by omega
                  rw [List.getElem?_eq_getElem hlt] at hy ⊢
                  simp only [Option.getD_some] at hy
                  rw [hy]
                  rfl)
              exact ⟨v, H', w', h1, h2, by simpa [denL, AV.den] using h3⟩
            · rw [hle, br_true] at h
              have hle := Nat.le_of_ble_eq_true hle
              cases hk : Nat.beq k 0
              · rw [hk, br_false] at h; exact h.elim
              · rw [hk, br_true] at h
                exact ⟨_, H, w, h, hh, by simpa [denL, AV.den] using nothing hle hk⟩
          · exact h.elim
        · exact h.elim
      · exact h.elim
    · exact h.elim
  · exact h.elim
end Go.Eng
