/- Place: how a text is cut, and a numeral read. -/
import Derived.Test.YtilejaehbgljbaaDoorF
import Derived.Test.YtilejaehbgljbaaDoorY2
namespace Go.Sp
open Go.Eng Go.Proofs.YtilejaehbgljbaaDoor

/-- What a byte may be, for the one or the other way of cutting. -/
def soB (k : Nat) (c : Int) : Bool :=
  match k with
  | 36 => c == 36
  | 37 => decide (48 ≤ c) && decide (c ≤ 57)
  | 38 => decide (letP c > 0)
  | _ => true

/-- The first n bytes are so. -/
structure allTo (k : Nat) (s : ByteArray) (n : Nat) : Prop where
  get : ∀ j, j < n → soB k (byteAt s j) = true

/-- How many of the first bytes, m at most, are so. -/
def cutN (k m : Nat) (s : ByteArray) : Nat := ((s.data.toList.take m).takeWhile fun c => soB k (c.toNat : Int)).length

theorem cutN_le (k m : Nat) (s : ByteArray) : cutN k m s ≤ m ∧ cutN k m s ≤ s.size := by
  have h := (List.takeWhile_prefix (l := s.data.toList.take m) fun c => soB k (c.toNat : Int)).length_le
  rw [List.length_take, size_data] at h
  unfold cutN
  omega

theorem tw_len {p : UInt8 → Bool} : ∀ (l : List UInt8) (n : Nat), n ≤ l.length → (∀ j, j < n → (l[j]?).map p = some true) → (n = l.length ∨ (l[n]?).map p = some false) → (l.takeWhile p).length = n
  | [], n, h, _, _ => by simp at h; simp [h]
  | c :: l, 0, _, _, h => by
    rcases h with h | h
    · simp at h
    · simp at h; simp [h]
  | c :: l, n + 1, h, ha, hz => by
    have h0 := ha 0 (by omega)
    simp at h0
    rw [List.takeWhile_cons, h0]
    simp only [if_true, List.length_cons]
    rw [tw_len l n (by simpa using h) (fun j hj => by simpa using ha (j + 1) (by omega)) (by simpa using hz)]

theorem cut_eq {k m n : Nat} {s : ByteArray} (h1 : n ≤ s.size) (h2 : n ≤ m) (h : allTo k s n) (hz : n = s.size ∨ n = m ∨ soB k (byteAt s n) = false) : n = cutN k m s := by
  symm
  have hs := size_data s
  refine tw_len _ n (by rw [List.length_take, hs]; omega) (fun j hj => ?_) ?_
  · have := h.get j hj
    rw [List.getElem?_take, if_pos (by omega), List.getElem?_eq_getElem (by omega)]
    rw [byteAt, List.getElem?_eq_getElem (by omega)] at this
    simpa using this
  · by_cases hm : n = m
    · left; rw [List.length_take, hs]; omega
    · by_cases hn : n = s.size
      · left; rw [List.length_take, hs]; omega
      · right
        have := (hz.resolve_left hn).resolve_left hm
        rw [List.getElem?_take, if_pos (by omega), List.getElem?_eq_getElem (by omega)]
        rw [byteAt, List.getElem?_eq_getElem (by omega)] at this
        simpa using this

theorem allTo_step {k n : Nat} {s : ByteArray} (h : allTo k s n) (hn : soB k (byteAt s n) = true) : allTo k s (n + 1) := ⟨fun j hj => by
  by_cases e : j = n
  · subst e; exact hn
  · exact h.get j (by omega)⟩

/-- The number that a numeral's first digits tell. -/
def valN (s : ByteArray) : Nat → Int
  | 0 => 0
  | n + 1 => valN s n * 10 + (byteAt s n - 48)

theorem val_bound {s : ByteArray} : ∀ {n : Nat}, allTo 37 s n → 0 ≤ valN s n ∧ valN s n < ((10 ^ n : Nat) : Int)
  | 0, _ => by simp [valN]
  | n + 1, h => by
    have ih := val_bound (n := n) ⟨fun j hj => h.get j (by omega)⟩
    have hd := h.get n (by omega)
    simp only [soB, Bool.and_eq_true, decide_eq_true_eq] at hd
    rw [valN, Nat.pow_succ]
    omega

end Go.Sp
namespace Go.Eng
open Go.Sp

/-- The text in a slot. -/
def strA : Option AV → ByteArray
  | some (.v (.string s)) => s
  | _ => ByteArray.empty

/-- What cuts a text's front off. -/
def cutH : Handler := fun _ args H K =>
  match args with
  | [.v (.int .i64 m), .fn (.func k) [] [], .ptr id n 0] =>
    match nth H id with
    | some ⟨n', .cells [.v (.string s)] t, true⟩ => ck (Nat.ble 36 k && Nat.ble k 39 && Nat.beq t 9) (n = n' ∧ (0 ≤ m ∧ m ≤ 9223372036854775807) ∧ s.size ≤ 9223372036854775806 ∧ K (.ret (.v (.string (subS s 0 (cutN k m.toNat s))))) (H.set id ⟨n', .cells [.v (.string (subS s (cutN k m.toNat s) s.size))] t, true⟩))
    | _ => False
  | _ => False

end Go.Eng
namespace Go.Proofs.YtilejaehbgljbaaDoor
open Go Go.Eng Go.Sp
set_option linter.unusedVariables false
set_option linter.unusedSimpArgs false


set_option maxRecDepth 100000 in
theorem so36_vc (c : Int) {R : AV → Prop} (h : (R (AV.v (Value.bool (c == (36 : Int)))))) : LC Tryd.prog 36 [.v (.int .u8 c)] [] (fun z_ _ => R z_) :=
  lc_of_exec (tbl := []) tab_ok trivial mixed noinv 2 _ Tryd.func36 rfl Tryd.ntmps36 (by decide) (by kernel_rfl) (Nat.le_of_ble_eq_true rfl) (@Eq.mpr (execN tab [] noinv 2 Tryd.f36.ntmps [] none 0 (body Tryd.f36) (argsT [.v (.int .u8 c)] 0) [] (post Tryd.f36 tab (retK (fun z_ _ => R z_)))) _ (by kernel_rfl) h)

set_option maxRecDepth 100000 in
theorem so36_lc (c : Int) : LC Tryd.prog 36 [.v (.int .u8 c)] [] (fun z_ _ => z_ = .v (.bool (soB 36 c))) :=
  so36_vc c (by
    rfl)

def so36H : List AV → Option AV
  | [.v (.int .u8 c)] => some (.v (.bool (soB 36 c)))
  | _ => none

theorem so36_ok : POk Tryd.prog 36 so36H := POk.of_lc (enters_of (c := body Tryd.f36) Tryd.func36 rfl (by kernel_rfl)) (by
  intro args v h
  unfold so36H at h
  split at h
  · cases h; exact so36_lc _
  · cases h)



set_option maxRecDepth 100000 in
theorem so37_vc (c : Int) {R : AV → Prop} (h : (br (decide (c ≥ (48 : Int))) (R (AV.v (Value.bool (decide (c ≤ (57 : Int)))))) (R (AV.v (Value.bool false))))) : LC Tryd.prog 37 [.v (.int .u8 c)] [] (fun z_ _ => R z_) :=
  lc_of_exec (tbl := []) tab_ok trivial mixed noinv 2 _ Tryd.func37 rfl Tryd.ntmps37 (by decide) (by kernel_rfl) (Nat.le_of_ble_eq_true rfl) (@Eq.mpr (execN tab [] noinv 2 Tryd.f37.ntmps [] none 0 (body Tryd.f37) (argsT [.v (.int .u8 c)] 0) [] (post Tryd.f37 tab (retK (fun z_ _ => R z_)))) _ (by kernel_rfl) h)

set_option maxRecDepth 100000 in
theorem so37_lc (c : Int) : LC Tryd.prog 37 [.v (.int .u8 c)] [] (fun z_ _ => z_ = .v (.bool (soB 37 c))) :=
  so37_vc c (by
    show br (decide (48 ≤ c)) (AV.v (Value.bool (decide (c ≤ 57))) = AV.v (Value.bool (decide (48 ≤ c) && decide (c ≤ 57)))) (AV.v (Value.bool false) = AV.v (Value.bool (decide (48 ≤ c) && decide (c ≤ 57))))
    cases decide (48 ≤ c) <;> simp)

def so37H : List AV → Option AV
  | [.v (.int .u8 c)] => some (.v (.bool (soB 37 c)))
  | _ => none

theorem so37_ok : POk Tryd.prog 37 so37H := POk.of_lc (enters_of (c := body Tryd.f37) Tryd.func37 rfl (by kernel_rfl)) (by
  intro args v h
  unfold so37H at h
  split at h
  · cases h; exact so37_lc _
  · cases h)



set_option maxRecDepth 100000 in
theorem so38_vc (c : Int) {R : AV → Prop} (h : (R (AV.v (Value.bool (decide (letP c > (0 : Int))))))) : LC Tryd.prog 38 [.v (.int .u8 c)] [] (fun z_ _ => R z_) :=
  lc_of_exec (tbl := tb8) tab_ok tb8_ok mixed noinv 2 _ Tryd.func38 rfl Tryd.ntmps38 (by decide) (by kernel_rfl) (Nat.le_of_ble_eq_true rfl) (@Eq.mpr (execN tab tb8 noinv 2 Tryd.f38.ntmps [] none 0 (body Tryd.f38) (argsT [.v (.int .u8 c)] 0) [] (post Tryd.f38 tab (retK (fun z_ _ => R z_)))) _ (by kernel_rfl) h)

set_option maxRecDepth 100000 in
theorem so38_lc (c : Int) : LC Tryd.prog 38 [.v (.int .u8 c)] [] (fun z_ _ => z_ = .v (.bool (soB 38 c))) :=
  so38_vc c (by
    rfl)

def so38H : List AV → Option AV
  | [.v (.int .u8 c)] => some (.v (.bool (soB 38 c)))
  | _ => none

theorem so38_ok : POk Tryd.prog 38 so38H := POk.of_lc (enters_of (c := body Tryd.f38) Tryd.func38 rfl (by kernel_rfl)) (by
  intro args v h
  unfold so38H at h
  split at h
  · cases h; exact so38_lc _
  · cases h)



set_option maxRecDepth 100000 in
theorem so39_vc (c : Int) {R : AV → Prop} (h : (R (AV.v (Value.bool true)))) : LC Tryd.prog 39 [.v (.int .u8 c)] [] (fun z_ _ => R z_) :=
  lc_of_exec (tbl := []) tab_ok trivial mixed noinv 2 _ Tryd.func39 rfl Tryd.ntmps39 (by decide) (by kernel_rfl) (Nat.le_of_ble_eq_true rfl) (@Eq.mpr (execN tab [] noinv 2 Tryd.f39.ntmps [] none 0 (body Tryd.f39) (argsT [.v (.int .u8 c)] 0) [] (post Tryd.f39 tab (retK (fun z_ _ => R z_)))) _ (by kernel_rfl) h)

set_option maxRecDepth 100000 in
theorem so39_lc (c : Int) : LC Tryd.prog 39 [.v (.int .u8 c)] [] (fun z_ _ => z_ = .v (.bool (soB 39 c))) :=
  so39_vc c (by
    rfl)

def so39H : List AV → Option AV
  | [.v (.int .u8 c)] => some (.v (.bool (soB 39 c)))
  | _ => none

theorem so39_ok : POk Tryd.prog 39 so39H := POk.of_lc (enters_of (c := body Tryd.f39) Tryd.func39 rfl (by kernel_rfl)) (by
  intro args v h
  unfold so39H at h
  split at h
  · cases h; exact so39_lc _
  · cases h)


def g1 : Tbl := (36, .pure so36H) :: (37, .pure so37H) :: (38, .pure so38H) :: (39, .pure so39H) :: []

theorem g1_ok : TblOk Tryd.prog g1 := ⟨so36_ok, so37_ok, so38_ok, so39_ok, trivial⟩

/-- What a cut is handed back as. -/
def cutR (k m n : Nat) (s : ByteArray) (z : AV) (H : HH) : Prop :=
  z = .v (.string (subS s 0 (cutN k m s))) ∧ LeH H [⟨n, .cells [.v (.string (subS s (cutN k m s) s.size))] 9, true⟩]


set_option maxRecDepth 100000 in
theorem cut36_vc (m : Int) (n : Nat) (s : ByteArray) {R : AV → HH → Prop} (h : ((∃ (x : Nat), (x ≤ s.size ∧ (↑x : Int) ≤ m ∧ allTo (36 : Nat) s x) ∧ ((AV.v (Value.int IntKind.i64 (0 : Int))).den = (AV.v (Value.int IntKind.i64 (↑x : Int))).den ∧ (AV.v (Value.int IntKind.i64 m)).den = (AV.v (Value.int IntKind.i64 m)).den ∧ (AV.fn (Fn.func (36 : FuncId)) [] []).den = (AV.fn (Fn.func (36 : FuncId)) [] []).den ∧ (AV.ptr (0 : Nat) n (0 : Nat)).den = (AV.ptr (0 : Nat) n (0 : Nat)).den ∧ True) ∧ LeH [Blk.mk n (Cont.cells [AV.v (Value.string s)] (9 : Nat)) true] [Blk.mk n (Cont.cells [AV.v (Value.string s)] (9 : Nat)) true]) ∧ ∀ (n1 : Nat), n1 ≤ s.size ∧ (↑n1 : Int) ≤ m ∧ allTo (36 : Nat) s n1 → n = n ∧ br (decide ((↑n1 : Int) < (↑s.size : Int))) (br (decide ((↑n1 : Int) < m)) (n = n ∧ ((0 : Int) ≤ (↑n1 : Int) ∧ (↑n1 : Int) < (↑s.size : Int)) ∧ br (soB (36 : Nat) (byteAt s (↑n1 : Int).toNat)) (∃ (x' : Nat), (x' ≤ s.size ∧ (↑x' : Int) ≤ m ∧ allTo (36 : Nat) s x') ∧ s.size - x' < s.size - n1 ∧ ((AV.v (Value.int IntKind.i64 (IntKind.i64.wrap ((↑n1 : Int) + (1 : Int))))).den = (AV.v (Value.int IntKind.i64 (↑x' : Int))).den ∧ (AV.v (Value.int IntKind.i64 m)).den = (AV.v (Value.int IntKind.i64 m)).den ∧ (AV.fn (Fn.func (36 : FuncId)) [] []).den = (AV.fn (Fn.func (36 : FuncId)) [] []).den ∧ (AV.ptr (0 : Nat) n (0 : Nat)).den = (AV.ptr (0 : Nat) n (0 : Nat)).den ∧ True) ∧ LeH [Blk.mk n (Cont.cells [AV.v (Value.string s)] (9 : Nat)) true] [Blk.mk n (Cont.cells [AV.v (Value.string s)] (9 : Nat)) true]) (n = n ∧ ((0 : Int) ≤ (↑n1 : Int) ∧ (↑n1 : Int) ≤ (↑s.size : Int)) ∧ n = n ∧ ((0 : Int) ≤ (↑n1 : Int) ∧ (↑n1 : Int) ≤ (↑s.size : Int)) ∧ s.size ≤ s.size ∧ n = n ∧ R (AV.v (Value.string (subS s (0 : Nat) (↑n1 : Int).toNat))) [Blk.mk n (Cont.cells [AV.v (Value.string (subS s (↑n1 : Int).toNat s.size))] (9 : Nat)) true])) (n = n ∧ ((0 : Int) ≤ (↑n1 : Int) ∧ (↑n1 : Int) ≤ (↑s.size : Int)) ∧ n = n ∧ ((0 : Int) ≤ (↑n1 : Int) ∧ (↑n1 : Int) ≤ (↑s.size : Int)) ∧ s.size ≤ s.size ∧ n = n ∧ R (AV.v (Value.string (subS s (0 : Nat) (↑n1 : Int).toNat))) [Blk.mk n (Cont.cells [AV.v (Value.string (subS s (↑n1 : Int).toNat s.size))] (9 : Nat)) true])) (n = n ∧ ((0 : Int) ≤ (↑n1 : Int) ∧ (↑n1 : Int) ≤ (↑s.size : Int)) ∧ n = n ∧ ((0 : Int) ≤ (↑n1 : Int) ∧ (↑n1 : Int) ≤ (↑s.size : Int)) ∧ s.size ≤ s.size ∧ n = n ∧ R (AV.v (Value.string (subS s (0 : Nat) (↑n1 : Int).toNat))) [Blk.mk n (Cont.cells [AV.v (Value.string (subS s (↑n1 : Int).toNat s.size))] (9 : Nat)) true]))) : LC Tryd.prog 44 [.v (.int .i64 m), .fn (.func 36) [] [], .ptr 0 n 0] [⟨n, .cells [.v (.string s)] 9, true⟩] R :=
  lc_of_exec (tbl := g1) tab_ok g1_ok mixed (fun _ T H => .inv Nat (fun i => ((6, .v (.int .i64 (i : Int))) :: keepT [0, 1, 2] T, H)) (fun i => i ≤ s.size ∧ (i : Int) ≤ m ∧ allTo 36 s i) (fun i => s.size - i)) 2 _ Tryd.func44 rfl Tryd.ntmps44 (by decide) (by kernel_rfl) (Nat.le_of_ble_eq_true rfl) (@Eq.mpr (execN tab g1 (fun _ T H => .inv Nat (fun i => ((6, .v (.int .i64 (i : Int))) :: keepT [0, 1, 2] T, H)) (fun i => i ≤ s.size ∧ (i : Int) ≤ m ∧ allTo 36 s i) (fun i => s.size - i)) 2 Tryd.f44.ntmps [] none 0 (body Tryd.f44) (argsT [.v (.int .i64 m), .fn (.func 36) [] [], .ptr 0 n 0] 0) [⟨n, .cells [.v (.string s)] 9, true⟩] (post Tryd.f44 tab (retK R))) _ (by kernel_rfl) h)


theorem cut36_lc (m : Int) (n : Nat) (s : ByteArray) (hm : 0 ≤ m ∧ m ≤ 9223372036854775807) (hs : s.size ≤ 9223372036854775806) : LC Tryd.prog 44 [.v (.int .i64 m), .fn (.func 36) [] [], .ptr 0 n 0] [⟨n, .cells [.v (.string s)] 9, true⟩] (cutR 36 m.toNat n s) :=
  cut36_vc m n s (by
    have hN := cutN_le 36 m.toNat s
    simp only [true_and, and_true, br_iff, Bool.not_eq_true', Bool.not_eq_false', decide_eq_true_eq, decide_eq_false_iff_not, AV.den, Value.int.injEq, Int.toNat_natCast]
    refine ⟨⟨0, ⟨by omega, by omega, ⟨fun j hj => by omega⟩⟩, rfl, LeH.refl _⟩, fun i hi => ?_⟩
    obtain ⟨i1, i2, i3⟩ := hi
    have fin : (i = s.size ∨ i = m.toNat ∨ soB 36 (byteAt s i) = false) → cutR 36 m.toNat n s (.v (.string (subS s 0 i))) [⟨n, .cells [.v (.string (subS s i s.size))] 9, true⟩] := fun h => by
      have e := cut_eq i1 (by omega) i3 h
      rw [e]
      exact ⟨rfl, LeH.refl _⟩
    refine ⟨fun a => ⟨fun b => ⟨⟨by omega, by omega⟩, fun c => ⟨i + 1, ⟨by omega, by omega, allTo_step i3 c⟩, by omega, by rw [w64 (by omega)]; omega, LeH.refl _⟩, fun c => ⟨⟨by omega, by omega⟩, ⟨by omega, by omega⟩, Nat.le_refl _, fin (.inr (.inr c))⟩⟩, fun b => ⟨⟨by omega, by omega⟩, ⟨by omega, by omega⟩, Nat.le_refl _, fin (.inr (.inl (by omega)))⟩⟩, fun a => ⟨⟨by omega, by omega⟩, ⟨by omega, by omega⟩, Nat.le_refl _, fin (.inl (by omega))⟩⟩)


set_option maxRecDepth 100000 in
theorem cut37_vc (m : Int) (n : Nat) (s : ByteArray) {R : AV → HH → Prop} (h : ((∃ (x : Nat), (x ≤ s.size ∧ (↑x : Int) ≤ m ∧ allTo (37 : Nat) s x) ∧ ((AV.v (Value.int IntKind.i64 (0 : Int))).den = (AV.v (Value.int IntKind.i64 (↑x : Int))).den ∧ (AV.v (Value.int IntKind.i64 m)).den = (AV.v (Value.int IntKind.i64 m)).den ∧ (AV.fn (Fn.func (37 : FuncId)) [] []).den = (AV.fn (Fn.func (37 : FuncId)) [] []).den ∧ (AV.ptr (0 : Nat) n (0 : Nat)).den = (AV.ptr (0 : Nat) n (0 : Nat)).den ∧ True) ∧ LeH [Blk.mk n (Cont.cells [AV.v (Value.string s)] (9 : Nat)) true] [Blk.mk n (Cont.cells [AV.v (Value.string s)] (9 : Nat)) true]) ∧ ∀ (n1 : Nat), n1 ≤ s.size ∧ (↑n1 : Int) ≤ m ∧ allTo (37 : Nat) s n1 → n = n ∧ br (decide ((↑n1 : Int) < (↑s.size : Int))) (br (decide ((↑n1 : Int) < m)) (n = n ∧ ((0 : Int) ≤ (↑n1 : Int) ∧ (↑n1 : Int) < (↑s.size : Int)) ∧ br (soB (37 : Nat) (byteAt s (↑n1 : Int).toNat)) (∃ (x' : Nat), (x' ≤ s.size ∧ (↑x' : Int) ≤ m ∧ allTo (37 : Nat) s x') ∧ s.size - x' < s.size - n1 ∧ ((AV.v (Value.int IntKind.i64 (IntKind.i64.wrap ((↑n1 : Int) + (1 : Int))))).den = (AV.v (Value.int IntKind.i64 (↑x' : Int))).den ∧ (AV.v (Value.int IntKind.i64 m)).den = (AV.v (Value.int IntKind.i64 m)).den ∧ (AV.fn (Fn.func (37 : FuncId)) [] []).den = (AV.fn (Fn.func (37 : FuncId)) [] []).den ∧ (AV.ptr (0 : Nat) n (0 : Nat)).den = (AV.ptr (0 : Nat) n (0 : Nat)).den ∧ True) ∧ LeH [Blk.mk n (Cont.cells [AV.v (Value.string s)] (9 : Nat)) true] [Blk.mk n (Cont.cells [AV.v (Value.string s)] (9 : Nat)) true]) (n = n ∧ ((0 : Int) ≤ (↑n1 : Int) ∧ (↑n1 : Int) ≤ (↑s.size : Int)) ∧ n = n ∧ ((0 : Int) ≤ (↑n1 : Int) ∧ (↑n1 : Int) ≤ (↑s.size : Int)) ∧ s.size ≤ s.size ∧ n = n ∧ R (AV.v (Value.string (subS s (0 : Nat) (↑n1 : Int).toNat))) [Blk.mk n (Cont.cells [AV.v (Value.string (subS s (↑n1 : Int).toNat s.size))] (9 : Nat)) true])) (n = n ∧ ((0 : Int) ≤ (↑n1 : Int) ∧ (↑n1 : Int) ≤ (↑s.size : Int)) ∧ n = n ∧ ((0 : Int) ≤ (↑n1 : Int) ∧ (↑n1 : Int) ≤ (↑s.size : Int)) ∧ s.size ≤ s.size ∧ n = n ∧ R (AV.v (Value.string (subS s (0 : Nat) (↑n1 : Int).toNat))) [Blk.mk n (Cont.cells [AV.v (Value.string (subS s (↑n1 : Int).toNat s.size))] (9 : Nat)) true])) (n = n ∧ ((0 : Int) ≤ (↑n1 : Int) ∧ (↑n1 : Int) ≤ (↑s.size : Int)) ∧ n = n ∧ ((0 : Int) ≤ (↑n1 : Int) ∧ (↑n1 : Int) ≤ (↑s.size : Int)) ∧ s.size ≤ s.size ∧ n = n ∧ R (AV.v (Value.string (subS s (0 : Nat) (↑n1 : Int).toNat))) [Blk.mk n (Cont.cells [AV.v (Value.string (subS s (↑n1 : Int).toNat s.size))] (9 : Nat)) true]))) : LC Tryd.prog 44 [.v (.int .i64 m), .fn (.func 37) [] [], .ptr 0 n 0] [⟨n, .cells [.v (.string s)] 9, true⟩] R :=
  lc_of_exec (tbl := g1) tab_ok g1_ok mixed (fun _ T H => .inv Nat (fun i => ((6, .v (.int .i64 (i : Int))) :: keepT [0, 1, 2] T, H)) (fun i => i ≤ s.size ∧ (i : Int) ≤ m ∧ allTo 37 s i) (fun i => s.size - i)) 2 _ Tryd.func44 rfl Tryd.ntmps44 (by decide) (by kernel_rfl) (Nat.le_of_ble_eq_true rfl) (@Eq.mpr (execN tab g1 (fun _ T H => .inv Nat (fun i => ((6, .v (.int .i64 (i : Int))) :: keepT [0, 1, 2] T, H)) (fun i => i ≤ s.size ∧ (i : Int) ≤ m ∧ allTo 37 s i) (fun i => s.size - i)) 2 Tryd.f44.ntmps [] none 0 (body Tryd.f44) (argsT [.v (.int .i64 m), .fn (.func 37) [] [], .ptr 0 n 0] 0) [⟨n, .cells [.v (.string s)] 9, true⟩] (post Tryd.f44 tab (retK R))) _ (by kernel_rfl) h)


theorem cut37_lc (m : Int) (n : Nat) (s : ByteArray) (hm : 0 ≤ m ∧ m ≤ 9223372036854775807) (hs : s.size ≤ 9223372036854775806) : LC Tryd.prog 44 [.v (.int .i64 m), .fn (.func 37) [] [], .ptr 0 n 0] [⟨n, .cells [.v (.string s)] 9, true⟩] (cutR 37 m.toNat n s) :=
  cut37_vc m n s (by
    have hN := cutN_le 37 m.toNat s
    simp only [true_and, and_true, br_iff, Bool.not_eq_true', Bool.not_eq_false', decide_eq_true_eq, decide_eq_false_iff_not, AV.den, Value.int.injEq, Int.toNat_natCast]
    refine ⟨⟨0, ⟨by omega, by omega, ⟨fun j hj => by omega⟩⟩, rfl, LeH.refl _⟩, fun i hi => ?_⟩
    obtain ⟨i1, i2, i3⟩ := hi
    have fin : (i = s.size ∨ i = m.toNat ∨ soB 37 (byteAt s i) = false) → cutR 37 m.toNat n s (.v (.string (subS s 0 i))) [⟨n, .cells [.v (.string (subS s i s.size))] 9, true⟩] := fun h => by
      have e := cut_eq i1 (by omega) i3 h
      rw [e]
      exact ⟨rfl, LeH.refl _⟩
    refine ⟨fun a => ⟨fun b => ⟨⟨by omega, by omega⟩, fun c => ⟨i + 1, ⟨by omega, by omega, allTo_step i3 c⟩, by omega, by rw [w64 (by omega)]; omega, LeH.refl _⟩, fun c => ⟨⟨by omega, by omega⟩, ⟨by omega, by omega⟩, Nat.le_refl _, fin (.inr (.inr c))⟩⟩, fun b => ⟨⟨by omega, by omega⟩, ⟨by omega, by omega⟩, Nat.le_refl _, fin (.inr (.inl (by omega)))⟩⟩, fun a => ⟨⟨by omega, by omega⟩, ⟨by omega, by omega⟩, Nat.le_refl _, fin (.inl (by omega))⟩⟩)


set_option maxRecDepth 100000 in
theorem cut38_vc (m : Int) (n : Nat) (s : ByteArray) {R : AV → HH → Prop} (h : ((∃ (x : Nat), (x ≤ s.size ∧ (↑x : Int) ≤ m ∧ allTo (38 : Nat) s x) ∧ ((AV.v (Value.int IntKind.i64 (0 : Int))).den = (AV.v (Value.int IntKind.i64 (↑x : Int))).den ∧ (AV.v (Value.int IntKind.i64 m)).den = (AV.v (Value.int IntKind.i64 m)).den ∧ (AV.fn (Fn.func (38 : FuncId)) [] []).den = (AV.fn (Fn.func (38 : FuncId)) [] []).den ∧ (AV.ptr (0 : Nat) n (0 : Nat)).den = (AV.ptr (0 : Nat) n (0 : Nat)).den ∧ True) ∧ LeH [Blk.mk n (Cont.cells [AV.v (Value.string s)] (9 : Nat)) true] [Blk.mk n (Cont.cells [AV.v (Value.string s)] (9 : Nat)) true]) ∧ ∀ (n1 : Nat), n1 ≤ s.size ∧ (↑n1 : Int) ≤ m ∧ allTo (38 : Nat) s n1 → n = n ∧ br (decide ((↑n1 : Int) < (↑s.size : Int))) (br (decide ((↑n1 : Int) < m)) (n = n ∧ ((0 : Int) ≤ (↑n1 : Int) ∧ (↑n1 : Int) < (↑s.size : Int)) ∧ br (soB (38 : Nat) (byteAt s (↑n1 : Int).toNat)) (∃ (x' : Nat), (x' ≤ s.size ∧ (↑x' : Int) ≤ m ∧ allTo (38 : Nat) s x') ∧ s.size - x' < s.size - n1 ∧ ((AV.v (Value.int IntKind.i64 (IntKind.i64.wrap ((↑n1 : Int) + (1 : Int))))).den = (AV.v (Value.int IntKind.i64 (↑x' : Int))).den ∧ (AV.v (Value.int IntKind.i64 m)).den = (AV.v (Value.int IntKind.i64 m)).den ∧ (AV.fn (Fn.func (38 : FuncId)) [] []).den = (AV.fn (Fn.func (38 : FuncId)) [] []).den ∧ (AV.ptr (0 : Nat) n (0 : Nat)).den = (AV.ptr (0 : Nat) n (0 : Nat)).den ∧ True) ∧ LeH [Blk.mk n (Cont.cells [AV.v (Value.string s)] (9 : Nat)) true] [Blk.mk n (Cont.cells [AV.v (Value.string s)] (9 : Nat)) true]) (n = n ∧ ((0 : Int) ≤ (↑n1 : Int) ∧ (↑n1 : Int) ≤ (↑s.size : Int)) ∧ n = n ∧ ((0 : Int) ≤ (↑n1 : Int) ∧ (↑n1 : Int) ≤ (↑s.size : Int)) ∧ s.size ≤ s.size ∧ n = n ∧ R (AV.v (Value.string (subS s (0 : Nat) (↑n1 : Int).toNat))) [Blk.mk n (Cont.cells [AV.v (Value.string (subS s (↑n1 : Int).toNat s.size))] (9 : Nat)) true])) (n = n ∧ ((0 : Int) ≤ (↑n1 : Int) ∧ (↑n1 : Int) ≤ (↑s.size : Int)) ∧ n = n ∧ ((0 : Int) ≤ (↑n1 : Int) ∧ (↑n1 : Int) ≤ (↑s.size : Int)) ∧ s.size ≤ s.size ∧ n = n ∧ R (AV.v (Value.string (subS s (0 : Nat) (↑n1 : Int).toNat))) [Blk.mk n (Cont.cells [AV.v (Value.string (subS s (↑n1 : Int).toNat s.size))] (9 : Nat)) true])) (n = n ∧ ((0 : Int) ≤ (↑n1 : Int) ∧ (↑n1 : Int) ≤ (↑s.size : Int)) ∧ n = n ∧ ((0 : Int) ≤ (↑n1 : Int) ∧ (↑n1 : Int) ≤ (↑s.size : Int)) ∧ s.size ≤ s.size ∧ n = n ∧ R (AV.v (Value.string (subS s (0 : Nat) (↑n1 : Int).toNat))) [Blk.mk n (Cont.cells [AV.v (Value.string (subS s (↑n1 : Int).toNat s.size))] (9 : Nat)) true]))) : LC Tryd.prog 44 [.v (.int .i64 m), .fn (.func 38) [] [], .ptr 0 n 0] [⟨n, .cells [.v (.string s)] 9, true⟩] R :=
  lc_of_exec (tbl := g1) tab_ok g1_ok mixed (fun _ T H => .inv Nat (fun i => ((6, .v (.int .i64 (i : Int))) :: keepT [0, 1, 2] T, H)) (fun i => i ≤ s.size ∧ (i : Int) ≤ m ∧ allTo 38 s i) (fun i => s.size - i)) 2 _ Tryd.func44 rfl Tryd.ntmps44 (by decide) (by kernel_rfl) (Nat.le_of_ble_eq_true rfl) (@Eq.mpr (execN tab g1 (fun _ T H => .inv Nat (fun i => ((6, .v (.int .i64 (i : Int))) :: keepT [0, 1, 2] T, H)) (fun i => i ≤ s.size ∧ (i : Int) ≤ m ∧ allTo 38 s i) (fun i => s.size - i)) 2 Tryd.f44.ntmps [] none 0 (body Tryd.f44) (argsT [.v (.int .i64 m), .fn (.func 38) [] [], .ptr 0 n 0] 0) [⟨n, .cells [.v (.string s)] 9, true⟩] (post Tryd.f44 tab (retK R))) _ (by kernel_rfl) h)


theorem cut38_lc (m : Int) (n : Nat) (s : ByteArray) (hm : 0 ≤ m ∧ m ≤ 9223372036854775807) (hs : s.size ≤ 9223372036854775806) : LC Tryd.prog 44 [.v (.int .i64 m), .fn (.func 38) [] [], .ptr 0 n 0] [⟨n, .cells [.v (.string s)] 9, true⟩] (cutR 38 m.toNat n s) :=
  cut38_vc m n s (by
    have hN := cutN_le 38 m.toNat s
    simp only [true_and, and_true, br_iff, Bool.not_eq_true', Bool.not_eq_false', decide_eq_true_eq, decide_eq_false_iff_not, AV.den, Value.int.injEq, Int.toNat_natCast]
    refine ⟨⟨0, ⟨by omega, by omega, ⟨fun j hj => by omega⟩⟩, rfl, LeH.refl _⟩, fun i hi => ?_⟩
    obtain ⟨i1, i2, i3⟩ := hi
    have fin : (i = s.size ∨ i = m.toNat ∨ soB 38 (byteAt s i) = false) → cutR 38 m.toNat n s (.v (.string (subS s 0 i))) [⟨n, .cells [.v (.string (subS s i s.size))] 9, true⟩] := fun h => by
      have e := cut_eq i1 (by omega) i3 h
      rw [e]
      exact ⟨rfl, LeH.refl _⟩
    refine ⟨fun a => ⟨fun b => ⟨⟨by omega, by omega⟩, fun c => ⟨i + 1, ⟨by omega, by omega, allTo_step i3 c⟩, by omega, by rw [w64 (by omega)]; omega, LeH.refl _⟩, fun c => ⟨⟨by omega, by omega⟩, ⟨by omega, by omega⟩, Nat.le_refl _, fin (.inr (.inr c))⟩⟩, fun b => ⟨⟨by omega, by omega⟩, ⟨by omega, by omega⟩, Nat.le_refl _, fin (.inr (.inl (by omega)))⟩⟩, fun a => ⟨⟨by omega, by omega⟩, ⟨by omega, by omega⟩, Nat.le_refl _, fin (.inl (by omega))⟩⟩)


set_option maxRecDepth 100000 in
theorem cut39_vc (m : Int) (n : Nat) (s : ByteArray) {R : AV → HH → Prop} (h : ((∃ (x : Nat), (x ≤ s.size ∧ (↑x : Int) ≤ m ∧ allTo (39 : Nat) s x) ∧ ((AV.v (Value.int IntKind.i64 (0 : Int))).den = (AV.v (Value.int IntKind.i64 (↑x : Int))).den ∧ (AV.v (Value.int IntKind.i64 m)).den = (AV.v (Value.int IntKind.i64 m)).den ∧ (AV.fn (Fn.func (39 : FuncId)) [] []).den = (AV.fn (Fn.func (39 : FuncId)) [] []).den ∧ (AV.ptr (0 : Nat) n (0 : Nat)).den = (AV.ptr (0 : Nat) n (0 : Nat)).den ∧ True) ∧ LeH [Blk.mk n (Cont.cells [AV.v (Value.string s)] (9 : Nat)) true] [Blk.mk n (Cont.cells [AV.v (Value.string s)] (9 : Nat)) true]) ∧ ∀ (n1 : Nat), n1 ≤ s.size ∧ (↑n1 : Int) ≤ m ∧ allTo (39 : Nat) s n1 → n = n ∧ br (decide ((↑n1 : Int) < (↑s.size : Int))) (br (decide ((↑n1 : Int) < m)) (n = n ∧ ((0 : Int) ≤ (↑n1 : Int) ∧ (↑n1 : Int) < (↑s.size : Int)) ∧ ∃ (x' : Nat), (x' ≤ s.size ∧ (↑x' : Int) ≤ m ∧ allTo (39 : Nat) s x') ∧ s.size - x' < s.size - n1 ∧ ((AV.v (Value.int IntKind.i64 (IntKind.i64.wrap ((↑n1 : Int) + (1 : Int))))).den = (AV.v (Value.int IntKind.i64 (↑x' : Int))).den ∧ (AV.v (Value.int IntKind.i64 m)).den = (AV.v (Value.int IntKind.i64 m)).den ∧ (AV.fn (Fn.func (39 : FuncId)) [] []).den = (AV.fn (Fn.func (39 : FuncId)) [] []).den ∧ (AV.ptr (0 : Nat) n (0 : Nat)).den = (AV.ptr (0 : Nat) n (0 : Nat)).den ∧ True) ∧ LeH [Blk.mk n (Cont.cells [AV.v (Value.string s)] (9 : Nat)) true] [Blk.mk n (Cont.cells [AV.v (Value.string s)] (9 : Nat)) true]) (n = n ∧ ((0 : Int) ≤ (↑n1 : Int) ∧ (↑n1 : Int) ≤ (↑s.size : Int)) ∧ n = n ∧ ((0 : Int) ≤ (↑n1 : Int) ∧ (↑n1 : Int) ≤ (↑s.size : Int)) ∧ s.size ≤ s.size ∧ n = n ∧ R (AV.v (Value.string (subS s (0 : Nat) (↑n1 : Int).toNat))) [Blk.mk n (Cont.cells [AV.v (Value.string (subS s (↑n1 : Int).toNat s.size))] (9 : Nat)) true])) (n = n ∧ ((0 : Int) ≤ (↑n1 : Int) ∧ (↑n1 : Int) ≤ (↑s.size : Int)) ∧ n = n ∧ ((0 : Int) ≤ (↑n1 : Int) ∧ (↑n1 : Int) ≤ (↑s.size : Int)) ∧ s.size ≤ s.size ∧ n = n ∧ R (AV.v (Value.string (subS s (0 : Nat) (↑n1 : Int).toNat))) [Blk.mk n (Cont.cells [AV.v (Value.string (subS s (↑n1 : Int).toNat s.size))] (9 : Nat)) true]))) : LC Tryd.prog 44 [.v (.int .i64 m), .fn (.func 39) [] [], .ptr 0 n 0] [⟨n, .cells [.v (.string s)] 9, true⟩] R :=
  lc_of_exec (tbl := g1) tab_ok g1_ok mixed (fun _ T H => .inv Nat (fun i => ((6, .v (.int .i64 (i : Int))) :: keepT [0, 1, 2] T, H)) (fun i => i ≤ s.size ∧ (i : Int) ≤ m ∧ allTo 39 s i) (fun i => s.size - i)) 2 _ Tryd.func44 rfl Tryd.ntmps44 (by decide) (by kernel_rfl) (Nat.le_of_ble_eq_true rfl) (@Eq.mpr (execN tab g1 (fun _ T H => .inv Nat (fun i => ((6, .v (.int .i64 (i : Int))) :: keepT [0, 1, 2] T, H)) (fun i => i ≤ s.size ∧ (i : Int) ≤ m ∧ allTo 39 s i) (fun i => s.size - i)) 2 Tryd.f44.ntmps [] none 0 (body Tryd.f44) (argsT [.v (.int .i64 m), .fn (.func 39) [] [], .ptr 0 n 0] 0) [⟨n, .cells [.v (.string s)] 9, true⟩] (post Tryd.f44 tab (retK R))) _ (by kernel_rfl) h)


theorem cut39_lc (m : Int) (n : Nat) (s : ByteArray) (hm : 0 ≤ m ∧ m ≤ 9223372036854775807) (hs : s.size ≤ 9223372036854775806) : LC Tryd.prog 44 [.v (.int .i64 m), .fn (.func 39) [] [], .ptr 0 n 0] [⟨n, .cells [.v (.string s)] 9, true⟩] (cutR 39 m.toNat n s) :=
  cut39_vc m n s (by
    have hN := cutN_le 39 m.toNat s
    simp only [true_and, and_true, br_iff, Bool.not_eq_true', Bool.not_eq_false', decide_eq_true_eq, decide_eq_false_iff_not, AV.den, Value.int.injEq, Int.toNat_natCast]
    refine ⟨⟨0, ⟨by omega, by omega, ⟨fun j hj => by omega⟩⟩, rfl, LeH.refl _⟩, fun i hi => ?_⟩
    obtain ⟨i1, i2, i3⟩ := hi
    have fin : (i = s.size ∨ i = m.toNat ∨ soB 39 (byteAt s i) = false) → cutR 39 m.toNat n s (.v (.string (subS s 0 i))) [⟨n, .cells [.v (.string (subS s i s.size))] 9, true⟩] := fun h => by
      have e := cut_eq i1 (by omega) i3 h
      rw [e]
      exact ⟨rfl, LeH.refl _⟩
    refine ⟨fun a => ⟨fun b => ⟨⟨by omega, by omega⟩, i + 1, ⟨by omega, by omega, allTo_step i3 rfl⟩, by omega, by rw [w64 (by omega)]; omega, LeH.refl _⟩, fun b => ⟨⟨by omega, by omega⟩, ⟨by omega, by omega⟩, Nat.le_refl _, fin (.inr (.inl (by omega)))⟩⟩, fun a => ⟨⟨by omega, by omega⟩, ⟨by omega, by omega⟩, Nat.le_refl _, fin (.inl (by omega))⟩⟩)

theorem cut_h : HOk Tryd.prog 44 cutH := HOk.of_at (enters_of (c := body Tryd.f44) Tryd.func44 rfl (by kernel_rfl)) fun rs args H K hk => by
  unfold cutH at hk
  split at hk
  · rename_i m k id n
    split at hk
    · rename_i n' s t hb
      have g_ := ck_spec hk
      clear hk
      obtain ⟨hc, rfl, hm, hs, hk⟩ := g_
      simp only [Bool.and_eq_true, Nat.ble_eq] at hc
      obtain ⟨⟨k1, k2⟩, k3⟩ := hc
      obtain rfl := Nat.eq_of_beq_eq_true k3
      rw [nth_eq] at hb
      refine ⟨id, _, [.v (.int .i64 m), .fn (.func k) [] [], .ptr 0 n 0], cutR k m.toNat n s, hb, rfl, ?_, fun z H' hz => ?_⟩
      · have hk4 : @Eq Nat k 36 ∨ @Eq Nat k 37 ∨ @Eq Nat k 38 ∨ @Eq Nat k 39 := by omega
        rcases hk4 with rfl | rfl | rfl | rfl
        · exact cut36_lc m n s hm hs
        · exact cut37_lc m n s hm hs
        · exact cut38_lc m n s hm hs
        · exact cut39_lc m n s hm hs
      · obtain ⟨rfl, hl⟩ := hz
        exact ⟨_, _, [], rfl, by rw [List.append_nil]; exact hk, hl⟩
    · exact hk.elim
  · exact hk.elim

/-- The digits of a numeral, read. -/
def atoiH : List AV → Option (Prop × AV)
  | [.v (.string s)] => some (1 ≤ s.size ∧ s.size ≤ 7 ∧ allTo 37 s s.size, .tup [.v (.int .i64 (valN s s.size)), .v .nilIface])
  | _ => none


def atoiII : Handler := inlH tab [] (fun _ T H => .inv Nat (fun i => ((6, .v (.int .i64 (valN (strA (T.get 0)) i))) :: (49, .v (.int .i64 (i : Int))) :: keepT [0, 5, 47, 48] T, H)) (fun i => i ≤ (strA (T.get 0)).size) (fun i => (strA (T.get 0)).size - i)) 2 Tryd.f45 1

set_option maxRecDepth 100000 in
theorem atoiI_ok : HOk Tryd.prog 45 atoiII :=
  inl_ok (tbl := []) tab_ok trivial mixed (fun _ T H => .inv Nat (fun i => ((6, .v (.int .i64 (valN (strA (T.get 0)) i))) :: (49, .v (.int .i64 (i : Int))) :: keepT [0, 5, 47, 48] T, H)) (fun i => i ≤ (strA (T.get 0)).size) (fun i => (strA (T.get 0)).size - i)) 2 _ 1 Tryd.func45 rfl Tryd.ntmps45 (by decide) (by kernel_rfl) (Nat.le_of_ble_eq_true rfl)


def g2 : Tbl := (45, .gen atoiII) :: []

theorem g2_ok : TblOk Tryd.prog g2 := ⟨atoiI_ok, trivial⟩


set_option maxRecDepth 100000 in
theorem atoi_vc (s : ByteArray) {R : AV → Prop} (h : (br (decide ((0 : Int) < (↑s.size : Int))) (br (decide ((↑s.size : Int) < (19 : Int))) (((0 : Int) ≤ (0 : Int) ∧ (0 : Int) < (↑s.size : Int)) ∧ br (byteAt s (0 : Nat) == (45 : Int)) (((0 : Int) ≤ (1 : Int) ∧ (1 : Int) ≤ (↑s.size : Int)) ∧ s.size ≤ s.size ∧ br (decide ((↑(subS s (1 : Nat) s.size).size : Int) < (1 : Int))) False (∀ (n1 n2 : Nat), (subS s (1 : Nat) s.size).size ≤ n2 → (∃ (x : Nat), x ≤ (subS s (1 : Nat) s.size).size ∧ ((AV.v (Value.int IntKind.i64 (0 : Int))).den = (AV.v (Value.int IntKind.i64 (valN (subS s (1 : Nat) s.size) x))).den ∧ (AV.v (Value.int IntKind.i64 (0 : Int))).den = (AV.v (Value.int IntKind.i64 (↑x : Int))).den ∧ (AV.v (Value.string (subS s (1 : Nat) s.size))).den = (AV.v (Value.string (subS s (1 : Nat) s.size))).den ∧ (AV.v (Value.string s)).den = (AV.v (Value.string s)).den ∧ (AV.sl (0 : Nat) n1 (0 : Nat) (1 : Nat) (subS s (1 : Nat) s.size).size n2).den = (AV.sl (0 : Nat) n1 (0 : Nat) (1 : Nat) (subS s (1 : Nat) s.size).size n2).den ∧ (AV.v (Value.int IntKind.i64 (↑(subS s (1 : Nat) s.size).size : Int))).den = (AV.v (Value.int IntKind.i64 (↑(subS s (1 : Nat) s.size).size : Int))).den ∧ True) ∧ LeH [Blk.mk n1 (Cont.rows n2 [Col.ints IntKind.u8 (byteAt (subS s (1 : Nat) s.size))] (5 : Nat)) true] [Blk.mk n1 (Cont.rows n2 [Col.ints IntKind.u8 (byteAt (subS s (1 : Nat) s.size))] (5 : Nat)) true]) ∧ ∀ (n4 : Nat), n4 ≤ (subS s (1 : Nat) s.size).size → br (decide ((↑n4 : Int) < (↑(subS s (1 : Nat) s.size).size : Int))) (((0 : Int) ≤ (↑n4 : Int) ∧ (↑n4 : Int) < (↑(subS s (1 : Nat) s.size).size : Int)) ∧ n1 = n1 ∧ (0 : Nat) + (↑n4 : Int).toNat < n2 ∧ br (decide (IntKind.u8.wrap (byteAt (subS s (1 : Nat) s.size) ((0 : Nat) + (↑n4 : Int).toNat) - (48 : Int)) > (9 : Int))) False (∃ (x' : Nat), x' ≤ (subS s (1 : Nat) s.size).size ∧ (subS s (1 : Nat) s.size).size - x' < (subS s (1 : Nat) s.size).size - n4 ∧ ((AV.v (Value.int IntKind.i64 (IntKind.i64.wrap (IntKind.i64.wrap (valN (subS s (1 : Nat) s.size) n4 * (10 : Int)) + IntKind.i64.wrap (IntKind.u8.wrap (byteAt (subS s (1 : Nat) s.size) ((0 : Nat) + (↑n4 : Int).toNat) - (48 : Int))))))).den = (AV.v (Value.int IntKind.i64 (valN (subS s (1 : Nat) s.size) x'))).den ∧ (AV.v (Value.int IntKind.i64 (IntKind.i64.wrap ((↑n4 : Int) + (1 : Int))))).den = (AV.v (Value.int IntKind.i64 (↑x' : Int))).den ∧ (AV.v (Value.string (subS s (1 : Nat) s.size))).den = (AV.v (Value.string (subS s (1 : Nat) s.size))).den ∧ (AV.v (Value.string s)).den = (AV.v (Value.string s)).den ∧ (AV.sl (0 : Nat) n1 (0 : Nat) (1 : Nat) (subS s (1 : Nat) s.size).size n2).den = (AV.sl (0 : Nat) n1 (0 : Nat) (1 : Nat) (subS s (1 : Nat) s.size).size n2).den ∧ (AV.v (Value.int IntKind.i64 (↑(subS s (1 : Nat) s.size).size : Int))).den = (AV.v (Value.int IntKind.i64 (↑(subS s (1 : Nat) s.size).size : Int))).den ∧ True) ∧ LeH [Blk.mk n1 (Cont.rows n2 [Col.ints IntKind.u8 (byteAt (subS s (1 : Nat) s.size))] (5 : Nat)) true] [Blk.mk n1 (Cont.rows n2 [Col.ints IntKind.u8 (byteAt (subS s (1 : Nat) s.size))] (5 : Nat)) true])) (((0 : Int) ≤ (0 : Int) ∧ (0 : Int) < (↑s.size : Int)) ∧ br (byteAt s (0 : Nat) == (45 : Int)) (R (AV.tup [AV.v (Value.int IntKind.i64 (IntKind.i64.wrap ((0 : Int) - valN (subS s (1 : Nat) s.size) n4))), AV.v Value.nilIface])) (R (AV.tup [AV.v (Value.int IntKind.i64 (valN (subS s (1 : Nat) s.size) n4)), AV.v Value.nilIface]))))) (((0 : Int) ≤ (0 : Int) ∧ (0 : Int) < (↑s.size : Int)) ∧ br (byteAt s (0 : Nat) == (43 : Int)) (((0 : Int) ≤ (1 : Int) ∧ (1 : Int) ≤ (↑s.size : Int)) ∧ s.size ≤ s.size ∧ br (decide ((↑(subS s (1 : Nat) s.size).size : Int) < (1 : Int))) False (∀ (n1 n2 : Nat), (subS s (1 : Nat) s.size).size ≤ n2 → (∃ (x : Nat), x ≤ (subS s (1 : Nat) s.size).size ∧ ((AV.v (Value.int IntKind.i64 (0 : Int))).den = (AV.v (Value.int IntKind.i64 (valN (subS s (1 : Nat) s.size) x))).den ∧ (AV.v (Value.int IntKind.i64 (0 : Int))).den = (AV.v (Value.int IntKind.i64 (↑x : Int))).den ∧ (AV.v (Value.string (subS s (1 : Nat) s.size))).den = (AV.v (Value.string (subS s (1 : Nat) s.size))).den ∧ (AV.v (Value.string s)).den = (AV.v (Value.string s)).den ∧ (AV.sl (0 : Nat) n1 (0 : Nat) (1 : Nat) (subS s (1 : Nat) s.size).size n2).den = (AV.sl (0 : Nat) n1 (0 : Nat) (1 : Nat) (subS s (1 : Nat) s.size).size n2).den ∧ (AV.v (Value.int IntKind.i64 (↑(subS s (1 : Nat) s.size).size : Int))).den = (AV.v (Value.int IntKind.i64 (↑(subS s (1 : Nat) s.size).size : Int))).den ∧ True) ∧ LeH [Blk.mk n1 (Cont.rows n2 [Col.ints IntKind.u8 (byteAt (subS s (1 : Nat) s.size))] (5 : Nat)) true] [Blk.mk n1 (Cont.rows n2 [Col.ints IntKind.u8 (byteAt (subS s (1 : Nat) s.size))] (5 : Nat)) true]) ∧ ∀ (n4 : Nat), n4 ≤ (subS s (1 : Nat) s.size).size → br (decide ((↑n4 : Int) < (↑(subS s (1 : Nat) s.size).size : Int))) (((0 : Int) ≤ (↑n4 : Int) ∧ (↑n4 : Int) < (↑(subS s (1 : Nat) s.size).size : Int)) ∧ n1 = n1 ∧ (0 : Nat) + (↑n4 : Int).toNat < n2 ∧ br (decide (IntKind.u8.wrap (byteAt (subS s (1 : Nat) s.size) ((0 : Nat) + (↑n4 : Int).toNat) - (48 : Int)) > (9 : Int))) False (∃ (x' : Nat), x' ≤ (subS s (1 : Nat) s.size).size ∧ (subS s (1 : Nat) s.size).size - x' < (subS s (1 : Nat) s.size).size - n4 ∧ ((AV.v (Value.int IntKind.i64 (IntKind.i64.wrap (IntKind.i64.wrap (valN (subS s (1 : Nat) s.size) n4 * (10 : Int)) + IntKind.i64.wrap (IntKind.u8.wrap (byteAt (subS s (1 : Nat) s.size) ((0 : Nat) + (↑n4 : Int).toNat) - (48 : Int))))))).den = (AV.v (Value.int IntKind.i64 (valN (subS s (1 : Nat) s.size) x'))).den ∧ (AV.v (Value.int IntKind.i64 (IntKind.i64.wrap ((↑n4 : Int) + (1 : Int))))).den = (AV.v (Value.int IntKind.i64 (↑x' : Int))).den ∧ (AV.v (Value.string (subS s (1 : Nat) s.size))).den = (AV.v (Value.string (subS s (1 : Nat) s.size))).den ∧ (AV.v (Value.string s)).den = (AV.v (Value.string s)).den ∧ (AV.sl (0 : Nat) n1 (0 : Nat) (1 : Nat) (subS s (1 : Nat) s.size).size n2).den = (AV.sl (0 : Nat) n1 (0 : Nat) (1 : Nat) (subS s (1 : Nat) s.size).size n2).den ∧ (AV.v (Value.int IntKind.i64 (↑(subS s (1 : Nat) s.size).size : Int))).den = (AV.v (Value.int IntKind.i64 (↑(subS s (1 : Nat) s.size).size : Int))).den ∧ True) ∧ LeH [Blk.mk n1 (Cont.rows n2 [Col.ints IntKind.u8 (byteAt (subS s (1 : Nat) s.size))] (5 : Nat)) true] [Blk.mk n1 (Cont.rows n2 [Col.ints IntKind.u8 (byteAt (subS s (1 : Nat) s.size))] (5 : Nat)) true])) (((0 : Int) ≤ (0 : Int) ∧ (0 : Int) < (↑s.size : Int)) ∧ br (byteAt s (0 : Nat) == (45 : Int)) (R (AV.tup [AV.v (Value.int IntKind.i64 (IntKind.i64.wrap ((0 : Int) - valN (subS s (1 : Nat) s.size) n4))), AV.v Value.nilIface])) (R (AV.tup [AV.v (Value.int IntKind.i64 (valN (subS s (1 : Nat) s.size) n4)), AV.v Value.nilIface]))))) (∀ (n1 n2 : Nat), s.size ≤ n2 → (∃ (x : Nat), x ≤ s.size ∧ ((AV.v (Value.int IntKind.i64 (0 : Int))).den = (AV.v (Value.int IntKind.i64 (valN s x))).den ∧ (AV.v (Value.int IntKind.i64 (0 : Int))).den = (AV.v (Value.int IntKind.i64 (↑x : Int))).den ∧ (AV.v (Value.string s)).den = (AV.v (Value.string s)).den ∧ (AV.v (Value.string s)).den = (AV.v (Value.string s)).den ∧ (AV.sl (0 : Nat) n1 (0 : Nat) (1 : Nat) s.size n2).den = (AV.sl (0 : Nat) n1 (0 : Nat) (1 : Nat) s.size n2).den ∧ (AV.v (Value.int IntKind.i64 (↑s.size : Int))).den = (AV.v (Value.int IntKind.i64 (↑s.size : Int))).den ∧ True) ∧ LeH [Blk.mk n1 (Cont.rows n2 [Col.ints IntKind.u8 (byteAt s)] (5 : Nat)) true] [Blk.mk n1 (Cont.rows n2 [Col.ints IntKind.u8 (byteAt s)] (5 : Nat)) true]) ∧ ∀ (n4 : Nat), n4 ≤ s.size → br (decide ((↑n4 : Int) < (↑s.size : Int))) (((0 : Int) ≤ (↑n4 : Int) ∧ (↑n4 : Int) < (↑s.size : Int)) ∧ n1 = n1 ∧ (0 : Nat) + (↑n4 : Int).toNat < n2 ∧ br (decide (IntKind.u8.wrap (byteAt s ((0 : Nat) + (↑n4 : Int).toNat) - (48 : Int)) > (9 : Int))) False (∃ (x' : Nat), x' ≤ s.size ∧ s.size - x' < s.size - n4 ∧ ((AV.v (Value.int IntKind.i64 (IntKind.i64.wrap (IntKind.i64.wrap (valN s n4 * (10 : Int)) + IntKind.i64.wrap (IntKind.u8.wrap (byteAt s ((0 : Nat) + (↑n4 : Int).toNat) - (48 : Int))))))).den = (AV.v (Value.int IntKind.i64 (valN s x'))).den ∧ (AV.v (Value.int IntKind.i64 (IntKind.i64.wrap ((↑n4 : Int) + (1 : Int))))).den = (AV.v (Value.int IntKind.i64 (↑x' : Int))).den ∧ (AV.v (Value.string s)).den = (AV.v (Value.string s)).den ∧ (AV.v (Value.string s)).den = (AV.v (Value.string s)).den ∧ (AV.sl (0 : Nat) n1 (0 : Nat) (1 : Nat) s.size n2).den = (AV.sl (0 : Nat) n1 (0 : Nat) (1 : Nat) s.size n2).den ∧ (AV.v (Value.int IntKind.i64 (↑s.size : Int))).den = (AV.v (Value.int IntKind.i64 (↑s.size : Int))).den ∧ True) ∧ LeH [Blk.mk n1 (Cont.rows n2 [Col.ints IntKind.u8 (byteAt s)] (5 : Nat)) true] [Blk.mk n1 (Cont.rows n2 [Col.ints IntKind.u8 (byteAt s)] (5 : Nat)) true])) (((0 : Int) ≤ (0 : Int) ∧ (0 : Int) < (↑s.size : Int)) ∧ br (byteAt s (0 : Nat) == (45 : Int)) (R (AV.tup [AV.v (Value.int IntKind.i64 (IntKind.i64.wrap ((0 : Int) - valN s n4))), AV.v Value.nilIface])) (R (AV.tup [AV.v (Value.int IntKind.i64 (valN s n4)), AV.v Value.nilIface])))))) False) False)) : LC Tryd.prog 40 [.v (.string s)] [] (fun z_ _ => R z_) :=
  lc_of_exec (tbl := g2) tab_ok g2_ok mixed noinv 2 _ Tryd.func40 rfl Tryd.ntmps40 (by decide) (by kernel_rfl) (Nat.le_of_ble_eq_true rfl) (@Eq.mpr (execN tab g2 noinv 2 Tryd.f40.ntmps [] none 0 (body Tryd.f40) (argsT [.v (.string s)] 0) [] (post Tryd.f40 tab (retK (fun z_ _ => R z_)))) _ (by kernel_rfl) h)


theorem atoi_lc (s : ByteArray) (h1 : 1 ≤ s.size) (h2 : s.size ≤ 7) (h3 : allTo 37 s s.size) : LC Tryd.prog 40 [.v (.string s)] [] (fun z _ => z = .tup [.v (.int .i64 (valN s s.size)), .v .nilIface]) :=
  atoi_vc s (by
    have hd : ∀ j, j < s.size → 48 ≤ byteAt s j ∧ byteAt s j ≤ 57 := fun j hj => by
      have := h3.get j hj
      simpa [soB] using this
    have h0 := hd 0 (by omega)
    simp only [true_and, and_true, br_iff, Bool.not_eq_true', Bool.not_eq_false', decide_eq_true_eq, decide_eq_false_iff_not, beq_iff_eq, beq_eq_false_iff_ne, AV.den, Value.int.injEq, Int.toNat_natCast, Nat.zero_add]
    refine ⟨fun _ => ⟨fun _ => ⟨⟨by omega, by omega⟩, fun h => by omega, fun _ => ⟨⟨by omega, by omega⟩, fun h => by omega, fun _ n1 n2 hn => ⟨?_, ?_⟩⟩⟩, fun h => by omega⟩, fun h => by omega⟩
    · exact ⟨0, by omega, ⟨rfl, rfl⟩, LeH.refl _⟩
    · intro i hi
      refine ⟨fun h => ?_, fun h => ?_⟩
      · have hb := hd i (by omega)
        have hv := val_bound (n := i) ⟨fun j hj => h3.get j (by omega)⟩
        have hv2 : valN s i < 10000000 := by
          have : 10 ^ i ≤ 10 ^ 7 := Nat.pow_le_pow_right (by decide) (by omega)
          omega
        have e0 : IntKind.u8.wrap (byteAt s i - 48) = byteAt s i - 48 := w8 (by omega)
        have e1 : IntKind.i64.wrap ((i : Int) + 1) = ((i + 1 : Nat) : Int) := by rw [w64 (by omega)]; omega
        have e2 : IntKind.i64.wrap (IntKind.i64.wrap (valN s i * 10) + IntKind.i64.wrap (byteAt s i - 48)) = valN s (i + 1) := by
          rw [w64 (x := valN s i * 10) (by omega), w64 (x := byteAt s i - 48) (by omega), w64 (by omega)]; rfl
        simp only [e0, e1, e2]
        exact ⟨⟨by omega, by omega⟩, by omega, fun h => by omega, fun _ => ⟨i + 1, by omega, by omega, ⟨rfl, rfl⟩, LeH.refl _⟩⟩
      · obtain rfl : i = s.size := by omega
        exact ⟨⟨by omega, by omega⟩, fun h => by omega, fun _ => rfl⟩)

theorem atoi7_ok : PrOk Tryd.prog 40 atoiH := PrOk.of_lc (enters_of (c := body Tryd.f40) Tryd.func40 rfl (by kernel_rfl)) (by
  intro args p h hp
  unfold atoiH at h
  split at h
  · cases h; exact atoi_lc _ hp.1 hp.2.1 hp.2.2
  · cases h)

end Go.Proofs.YtilejaehbgljbaaDoor

