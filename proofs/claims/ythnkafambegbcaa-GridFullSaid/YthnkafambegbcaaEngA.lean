import Derived.WalkKit
import Derived.OrdersHeld
import Derived.Below
import Derived.KernelRfl
import Derived.Laws.StructEq
import Derived.Lib.Strings
import Derived.Laws.Slices
import Derived.Laws.BytesString
import Derived.Laws.BytesArg
import Derived.RangeFuncLeaves
import Derived.OrdersIn
import Derived.LoopNIn
import Derived.Sort.LoopGhostIn
namespace Go.Eng
open Go
inductive AV where
  | v (x : Value)
  | ptr (id num off : Nat)
  | ep (id num i sz j : Nat)
  | sl (id num i sz len cap : Nat)
  | mp (id num : Nat)
  | fn (f : Fn) (first cap : List AV)
  | ifc (t : TypeId) (x : AV)
  | agg (l : List AV)
  | tup (l : List AV)
  | yl (id num : Nat)
  | vl (id num o i sz len cap : Nat)
  | vp (id num o i sz j : Nat)
  | os (id : Nat) (a : Option Addr) (num o i sz len cap : Nat)
  | pp (id : Nat) (p : Option Addr)
  | kp (id num off : Nat) (c : List AV)
mutual
def AV.den : AV → Value
  | .v x => x
  | .ptr _ n o => .pointer (some ⟨n, o, none⟩)
  | .ep _ n i sz j => .pointer (some ⟨n, i * sz + j, none⟩)
  | .sl _ n i sz len cap => .slice (some ⟨n, i * sz, none⟩) len cap
  | .mp _ n => .map (some n)
  | .fn f a b => .func f (denL a).toArray (denL b).toArray
  | .ifc t x => .iface t x.den
  | .agg l => .agg (denL l).toArray
  | .tup l => .tuple (denL l).toArray
  | .yl _ n => .func (.yield n) #[] #[]
  | .vl _ n o i sz len cap => .slice (some ⟨n, o + i * sz, none⟩) len cap
  | .vp _ n o i sz j => .pointer (some ⟨n, o + i * sz + j, none⟩)
  | .os _ a n o i sz len cap => .slice (if len = 0 then a else some ⟨n, o + i * sz, none⟩) len cap
  | .pp _ p => .pointer p
  | .kp _ n o _ => .pointer (some ⟨n, o, none⟩)
def denL : List AV → List Value
  | [] => []
  | x :: l => x.den :: denL l
end
theorem denL_map : ∀ l : List AV, denL l = l.map AV.den
  | [] => rfl
  | x :: l => by simp [denL, denL_map l]
@[simp] theorem denL_length (l : List AV) : (denL l).length = l.length := by simp [denL_map]
theorem denL_append (l m : List AV) : denL (l ++ m) = denL l ++ denL m := by simp [denL_map]
theorem denL_drop (l : List AV) (n : Nat) : denL (l.drop n) = (denL l).drop n := by simp [denL_map, List.map_drop]
theorem denL_take (l : List AV) (n : Nat) : denL (l.take n) = (denL l).take n := by simp [denL_map, List.map_take]
theorem denL_get {l : List AV} {n : Nat} {x : AV} (h : l[n]? = some x) : (denL l)[n]? = some x.den := by simp [denL_map, h]
def AV.cells : AV → List AV
  | .agg l => l
  | x => [x]
def AV.one : AV → Bool
  | .v x => x.oneCell'
  | .agg _ | .tup _ => false
  | _ => true
theorem AV.one_den {x : AV} (h : x.one = true) : x.den.oneCell' = true := by
  cases x <;> simp_all [AV.one, AV.den, Value.oneCell']
theorem AV.cells_den {x : AV} (h : x.one = true ∨ ∃ l, x = .agg l) : x.den.cells.toList = denL x.cells := by
  rcases h with h | ⟨l, rfl⟩
  · have h' := AV.one_den h
    cases x with
    | agg l => simp [AV.one] at h
    | tup l => simp [AV.one] at h
    | v x => cases x <;> simp_all [AV.one, AV.den, AV.cells, denL, Value.cells, Value.oneCell']
    | _ => simp [AV.den, AV.cells, denL, Value.cells]
  · simp [AV.den, AV.cells, Value.cells]
inductive TD where
  | int (k : IntKind)
  | bool
  | str
  | struct (fs : List (Nat × Nat))
  | arr (n elem : Nat)
  | slice (elem : Nat)
  | ptr (elem : Nat)
  | map (k e : Nat)
  | iface
  | uptr
  | other
def TD.agg : TD → Bool
  | .struct _ | .arr _ _ => true
  | _ => false
structure TI where
  sz : Nat
  bytes : Nat
  zero : AV
  d : TD
  eqok : Bool
abbrev Tab := List (Nat × TI)
def Tab.get : Tab → Nat → Option TI
  | [], _ => none
  | (k, i) :: r, t => if k = t then some i else Tab.get r t
def DescOk (P : Program) (t : Nat) : TD → Prop
  | .int k => P.underlying t = some (.int k)
  | .bool => P.underlying t = some .bool
  | .str => P.underlying t = some .string
  | .struct fs => P.underlying t = some (.struct (P.fieldsOf t)) ∧ (P.fieldsOf t).toList.map (fun f => (f.offset, f.type)) = fs ∧ (P.fieldsOf t).toList.all (fun f => (P.info? f.type).isSome) = true
  | .arr n e => P.underlying t = some (.array n e)
  | .slice e => P.underlying t = some (.slice e)
  | .ptr e => P.underlying t = some (.pointer e)
  | .map k e => P.underlying t = some (.map k e)
  | .iface => match P.underlying t with
    | some (.interface _) => True
    | _ => False
  | .uptr => P.underlying t = some .unsafePointer
  | .other => match P.underlying t with
    | some (.struct _) | some (.array _ _) | none => False
    | _ => True
structure EntryOk (P : Program) (t : Nat) (i : TI) : Prop where
  info : (P.info? t).map (fun x => (x.zero, x.size, x.bytes)) = some (some i.zero.den, i.sz, i.bytes)
  desc : DescOk P t i.d
  zok : i.zero.one = true ∨ ∃ l, i.zero = .agg l
  zsz : i.zero.cells.length = i.sz
  zone : i.zero.cells.all AV.one = true
  eq : i.eqok = true → P.stoodInHeld t = false ∧ P.eqGuardType P.depth t = false ∧ (P.fieldsOf t).toList.all (fun f => f.name ≠ "_") = true
def TabOk (P : Program) : Tab → Prop
  | [] => True
  | (t, i) :: r => EntryOk P t i ∧ TabOk P r
theorem TabOk.get {P : Program} : ∀ {tab : Tab}, TabOk P tab → ∀ {t : Nat} {i : TI}, tab.get t = some i → EntryOk P t i
  | [], _, _, _, h => by simp [Tab.get] at h
  | (k, j) :: r, ⟨h1, h2⟩, t, i, h => by
    simp only [Tab.get] at h
    split at h
    · rename_i e; subst e; cases h; exact h1
    · exact TabOk.get h2 h
theorem iface_desc {P : Program} {t : Nat} (h : DescOk P t .iface) : ∃ ms, P.underlying t = some (.interface ms) := by
  simp only [DescOk] at h
  split at h
  · rename_i ms hm; exact ⟨ms, hm⟩
  · exact h.elim
theorem run_equal_nils {P : Program} {w : World} {t : Nat} {ms : Array (String × TypeId)} (h : P.underlying t = some (.interface ms)) : (Op.equal t .nilIface .nilIface).run P w = .ok true w := by
  have e : ∀ d, (Op.equalIn (d + 1) t .nilIface .nilIface).run P w = .ok true w := fun d => by
    simp only [Op.equalIn, Sem.run_bind, run_underlying h, Result.andThen_ok, Sem.run_pure]
  exact e 9999
theorem run_equal_nil {P : Program} {w : World} {t u : Nat} {x : Value} {ms : Array (String × TypeId)} (h : P.underlying t = some (.interface ms)) : (Op.equal t (.iface u x) .nilIface).run P w = .ok false w := by
  have e : ∀ d, (Op.equalIn (d + 1) t (.iface u x) .nilIface).run P w = .ok false w := fun d => by
    simp only [Op.equalIn, Sem.run_bind, run_underlying h, Result.andThen_ok, Sem.run_pure]
  exact e 9999
section
variable {P : Program} {t : Nat} {i : TI}
theorem EntryOk.info' (h : EntryOk P t i) : ∃ x, P.info? t = some x ∧ x.zero = some i.zero.den ∧ x.size = i.sz ∧ x.bytes = i.bytes := by
  have := h.info
  cases hx : P.info? t with
  | none => simp [hx] at this
  | some x => simp [hx] at this; exact ⟨x, rfl, this.1, this.2.1, this.2.2⟩
theorem EntryOk.run_sizeOf (h : EntryOk P t i) (w : World) : (sizeOf t).run P w = .ok i.sz w := by
  obtain ⟨x, hx, _, hs, _⟩ := h.info'
  simp [sizeOf, typeInfo, hx, hs]
theorem EntryOk.run_zero (h : EntryOk P t i) (w : World) : (zeroValue t).run P w = .ok i.zero.den w := by
  obtain ⟨x, hx, hz, _, _⟩ := h.info'
  simp [zeroValue, typeInfo, hx, hz]
theorem EntryOk.run_isAgg (h : EntryOk P t i) (w : World) : (isAgg t).run P w = .ok i.d.agg w := by
  have hd := h.desc
  cases hdd : i.d with
  | other =>
    rw [hdd] at hd
    simp only [DescOk] at hd
    cases hu : P.underlying t with
    | none => simp [hu] at hd
    | some d => cases d <;> first | (simp [hu] at hd; done) | simp [isAgg, run_underlying hu, TD.agg]
  | struct fs => rw [hdd] at hd; simp [isAgg, run_underlying hd.1, TD.agg]
  | iface =>
    rw [hdd] at hd
    simp only [DescOk] at hd
    cases hu : P.underlying t with
    | none => simp [hu] at hd
    | some d => cases d <;> first | (simp [hu] at hd; done) | simp [isAgg, run_underlying hu, TD.agg]
  | _ => rw [hdd] at hd; simp only [DescOk] at hd; simp [isAgg, run_underlying hd, TD.agg]
end
def partAV (tab : Tab) (t : Nat) (l : List AV) (off : Nat) : Option AV :=
  match tab.get t with
  | none => none
  | some i =>
    if i.d.agg then (if off + i.sz ≤ l.length then some (.agg ((l.drop off).take i.sz)) else none)
    else l[off]?
theorem run_partAV {P : Program} {tab : Tab} (ht : TabOk P tab) {t : Nat} {l : List AV} {off : Nat} {x : AV} (h : partAV tab t l off = some x) (w : World) :
    (part t (denL l).toArray off).run P w = .ok x.den w := by
  unfold partAV at h
  cases hi : tab.get t with
  | none => simp [hi] at h
  | some i =>
    simp only [hi] at h
    have ho := ht.get hi
    simp only [part, Sem.run_bind, ho.run_isAgg, Result.andThen_ok]
    split at h
    · rename_i hagg
      split at h
      · rename_i hlen
        cases h
        simp only [hagg, if_true, Sem.run_bind, ho.run_sizeOf, Result.andThen_ok, Sem.run_pure, AV.den, denL_take, denL_drop]
        congr 2
        apply Array.ext'
        simp [List.extract_eq_take_drop]
      · cases h
    · rename_i hagg
      have := denL_get h
      simp [hagg, this]
abbrev TT := List (Nat × AV)
def TT.get : TT → Nat → Option AV
  | [], _ => none
  | (k, v) :: T, t => if k = t then some v else TT.get T t
def evalO (T : TT) : Operand → Option AV
  | .tmp t => T.get t
  | .const v => some (.v v)
  | .global g => some (.v (.pointer (some ⟨g, 0, none⟩)))
  | .func f => some (.fn (.func f) [] [])
def evalK (T : TT) (x : Operand) (K : AV → Prop) : Prop :=
  match evalO T x with
  | some v => K v
  | none => False
def evalL (T : TT) : List Operand → (List AV → Prop) → Prop
  | [], K => K []
  | x :: l, K => evalK T x fun v => evalL T l fun vs => K (v :: vs)
def Matches (T : TT) (tmps : Array Value) : Prop := ∀ t av, T.get t = some av → tmps.getD t undef = av.den
theorem evalO_sound {T : TT} {a : Act} (hm : Matches T a.tmps) {x : Operand} {v : AV} (h : evalO T x = some v) : a.eval x = v.den := by
  cases x with
  | tmp t => exact hm t v h
  | const c => cases h; rfl
  | global g => cases h; rfl
  | func f => cases h; rfl
theorem evalK_sound {T : TT} {a : Act} (hm : Matches T a.tmps) {x : Operand} {K : AV → Prop} (h : evalK T x K) : ∃ v, a.eval x = v.den ∧ K v := by
  unfold evalK at h
  split at h
  · rename_i v hv; exact ⟨v, evalO_sound hm hv, h⟩
  · exact h.elim
theorem evalL_sound {T : TT} {a : Act} (hm : Matches T a.tmps) : ∀ {l : List Operand} {K : List AV → Prop}, evalL T l K → ∃ vs, l.map a.eval = denL vs ∧ K vs
  | [], K, h => ⟨[], rfl, h⟩
  | x :: l, K, h => by
    obtain ⟨v, hv, h⟩ := evalK_sound hm h
    obtain ⟨vs, hvs, h⟩ := evalL_sound hm h
    exact ⟨v :: vs, by simp [hv, hvs, denL], h⟩
def eqFs (eq : Nat → AV → AV → Option Bool) (tab : Tab) (l m : List AV) : List (Nat × Nat) → Option Bool
  | [] => some true
  | (off, ty) :: fs =>
    match partAV tab ty l off, partAV tab ty m off with
    | some a, some b =>
      match eq ty a b, eqFs eq tab l m fs with
      | some r, some rest => some (r && rest)
      | _, _ => none
    | _, _ => none
def eqAV (tab : Tab) : Nat → Nat → AV → AV → Option Bool
  | 0, _, _, _ => none
  | n + 1, t, x, y =>
    match tab.get t with
    | none => none
    | some i =>
      match i.d, x, y with
      | .int _, .v (.int k a), .v (.int k' b) => if k = k' then some (a == b) else none
      | .bool, .v (.bool a), .v (.bool b) => some (a == b)
      | .str, .v (.string a), .v (.string b) => some (a.toList == b.toList)
      | .struct fs, .agg l, .agg m => if i.eqok then eqFs (eqAV tab n) tab l m fs else none
      | _, _, _ => none
theorem run_eqAV {P : Program} {tab : Tab} (ht : TabOk P tab) (w : World) : ∀ (n t : Nat) (x y : AV) (b : Bool) (d : Nat), n ≤ d → eqAV tab n t x y = some b →
    (Op.equalIn d t x.den y.den).run P w = .ok b w := by
  intro n
  induction n with
  | zero => intro t x y b d _ h; simp [eqAV] at h
  | succ n ih =>
    intro t x y b d hd h
    obtain ⟨d, rfl⟩ : ∃ m, d = m + 1 := ⟨d - 1, by omega⟩
    simp only [eqAV] at h
    cases hi : tab.get t with
    | none => simp [hi] at h
    | some i =>
      simp only [hi] at h
      have ho := ht.get hi
      have hdesc := ho.desc
      split at h
      · rename_i k0 k a k' b' hdd
        rw [hdd] at hdesc
        split at h
        · rename_i e; subst e; cases h
          exact run_equalIn_int w d t k k0 a b' hdesc
        · cases h
      · rename_i a b' hdd
        rw [hdd] at hdesc
        cases h
        exact run_equalIn_bool' w d t a b' hdesc
      · rename_i a b' hdd
        rw [hdd] at hdesc
        cases h
        exact run_equalIn_string w d t a b' hdesc
      · rename_i fs l m hdd
        rw [hdd] at hdesc
        split at h
        · rename_i heq
          obtain ⟨hst, _, hnm⟩ := ho.eq heq
          simp only [AV.den]
          rw [run_equalIn_struct w d t _ _ hdesc.1 hst]
          have hfs := hdesc.2.1
          generalize (P.fieldsOf t).toList = F at hfs hnm
          subst hfs
          clear hdesc hdd heq hst ho hi
          induction F generalizing b with
          | nil => simp [eqFs] at h; subst h; simp [Op.eqFields]
          | cons f F ihF =>
            simp only [List.map_cons, eqFs] at h
            simp only [List.all_cons, Bool.and_eq_true, decide_eq_true_eq] at hnm
            split at h
            · rename_i av bv ha hb
              split at h
              · rename_i r rest hr hrest
                cases h
                have h1 := run_partAV ht ha w
                have h2 := run_partAV ht hb w
                have h3 := ih f.type av bv r d (by omega) hr
                have h4 := ihF rest hnm.2 hrest
                simp only [Op.eqFields, hnm.1, ne_eq, not_false_eq_true, if_true, Sem.run_bind, h1, h2, h3, Result.andThen_ok, Sem.run_ite, Sem.run_pure]
                cases r <;> simp [h4]
              · cases h
            · cases h
        · cases h
      · cases h
def shlI (k : IntKind) (x y : Int) : Int := k.wrap (x * 2 ^ (min y.toNat k.bits))
def shrI (k : IntKind) (x y : Int) : Int := x.fdiv (2 ^ (min y.toNat k.bits))
def ibits (op : BinOp) (k : IntKind) (x y : Int) : Int :=
  let a := BitVec.ofInt k.bits x
  let b := BitVec.ofInt k.bits y
  k.wrap (match op with
    | .and => (a &&& b).toNat
    | .or => (a ||| b).toNat
    | .xor => (a ^^^ b).toNat
    | _ => (a &&& ~~~b).toNat)
def ck (b : Bool) (A : Prop) : Prop :=
  match b with
  | true => A
  | false => False
theorem ck_spec {b : Bool} {A : Prop} (h : ck b A) : b = true ∧ A := by cases b <;> simp_all [ck]
def sameK : IntKind → IntKind → Bool
  | .i8, .i8 | .i16, .i16 | .i32, .i32 | .i64, .i64 | .u8, .u8 | .u16, .u16 | .u32, .u32 | .u64, .u64 => true
  | _, _ => false
theorem sameK_eq {j k : IntKind} (h : sameK j k = true) : j = k := by cases j <;> cases k <;> simp_all [sameK]
def mkS (l : List UInt8) : ByteArray := ⟨l.toArray⟩
def catS (a b : ByteArray) : ByteArray := mkS (a.data.toList ++ b.data.toList)
def subS (s : ByteArray) (l h : Nat) : ByteArray := mkS ((s.data.toList.drop l).take (h - l))
def eqS (a b : ByteArray) : Bool := a.data.toList == b.data.toList
def ltS (a b : ByteArray) : Bool := Op.bytesLess a.data.toList b.data.toList
def mkI (l : List Int) : ByteArray := mkS (l.map fun n => UInt8.ofNat n.toNat)
theorem catS_eq (a b : ByteArray) : a ++ b = catS a b := by
  apply ByteArray.ext; apply Array.ext'
  simp [catS, mkS]
theorem subS_eq (s : ByteArray) (l h : Nat) : s.extract l h = subS s l h := Go.Lib.extract_eq s l h
theorem eqS_eq (a b : ByteArray) : (a.toList == b.toList) = eqS a b := by simp only [eqS, ByteArray.toList_eq]
theorem ltS_eq (a b : ByteArray) : Op.bytesLess a.toList b.toList = ltS a b := by simp only [ltS, ByteArray.toList_eq]
def binK (tab : Tab) (op : BinOp) (t : TypeId) (x y : AV) (K : AV → Prop) : Prop :=
  match x, y with
  | .v (.int k a), .v (.int k' b) =>
    match op with
    | .add => ck (sameK k k') <| K (.v (.int k (k.wrap (a + b))))
    | .sub => ck (sameK k k') <| K (.v (.int k (k.wrap (a - b))))
    | .mul => ck (sameK k k') <| K (.v (.int k (k.wrap (a * b))))
    | .quo => ck (sameK k k') <| b ≠ 0 ∧ K (.v (.int k (k.wrap (a.tdiv b))))
    | .rem => ck (sameK k k') <| b ≠ 0 ∧ K (.v (.int k (a.tmod b)))
    | .eql => ck (sameK k k') <| K (.v (.bool (a == b)))
    | .neq => ck (sameK k k') <| K (.v (.bool (a != b)))
    | .lss => ck (sameK k k') <| K (.v (.bool (decide (a < b))))
    | .leq => ck (sameK k k') <| K (.v (.bool (decide (a ≤ b))))
    | .gtr => ck (sameK k k') <| K (.v (.bool (decide (a > b))))
    | .geq => ck (sameK k k') <| K (.v (.bool (decide (a ≥ b))))
    | .and => ck (sameK k k') <| K (.v (.int k (ibits .and k a b)))
    | .or => ck (sameK k k') <| K (.v (.int k (ibits .or k a b)))
    | .xor => ck (sameK k k') <| K (.v (.int k (ibits .xor k a b)))
    | .andNot => ck (sameK k k') <| K (.v (.int k (ibits .andNot k a b)))
    | .shl => 0 ≤ b ∧ K (.v (.int k (shlI k a b)))
    | .shr => 0 ≤ b ∧ K (.v (.int k (shrI k a b)))
  | .v (.string a), .v (.string b) =>
    match op with
    | .add => a.size + b.size ≤ 9223372036854775807 ∧ K (.v (.string (catS a b)))
    | .eql => K (.v (.bool (eqS a b)))
    | .neq => K (.v (.bool (!(eqS a b))))
    | .lss => K (.v (.bool (ltS a b)))
    | .leq => K (.v (.bool (ltS a b || eqS a b)))
    | .gtr => K (.v (.bool (!(ltS a b || eqS a b))))
    | .geq => K (.v (.bool (!(ltS a b))))
    | _ => False
  | .v (.bool a), .v (.bool b) =>
    match op with
    | .eql => (match tab.get t with | some ⟨_, _, _, .bool, _⟩ => K (.v (.bool (a == b))) | _ => False)
    | .neq => (match tab.get t with | some ⟨_, _, _, .bool, _⟩ => K (.v (.bool (!(a == b)))) | _ => False)
    | _ => False
  | .ptr id n o, .ptr id' n' o' =>
    match tab.get t with
    | some ⟨_, _, _, .ptr e, _⟩ =>
      (match tab.get e with
       | some ei => ck (Nat.beq id id' && !Nat.beq ei.sz 0) (n = n' ∧ (match op with
          | .eql => K (.v (.bool (Nat.beq o o')))
          | .neq => K (.v (.bool (!(Nat.beq o o'))))
          | _ => False))
       | none => False)
    | _ => False
  | .agg l, .agg m =>
    match tab.get t with
    | some i => ck i.eqok (match eqAV tab 100 t (.agg l) (.agg m), op with
      | some b, .eql => K (.v (.bool b))
      | some b, .neq => K (.v (.bool (!b)))
      | _, _ => False)
    | none => False
  | _, _ => False
theorem run_eqGuard_int (P : Program) (w : World) (op : BinOp) (t : TypeId) (x y : Operand) (k k' : IntKind) (a b : Int) : (eqGuard op t x y (.int k a) (.int k' b)).run P w = .ok () w := by
  cases op <;> simp [eqGuard]
theorem run_eqGuard_str (P : Program) (w : World) (op : BinOp) (t : TypeId) (x y : Operand) (a b : ByteArray) : (eqGuard op t x y (.string a) (.string b)).run P w = .ok () w := by
  cases op <;> simp [eqGuard]
theorem run_eqGuard_bool (P : Program) (w : World) (op : BinOp) (t : TypeId) (x y : Operand) (a b : Bool) : (eqGuard op t x y (.bool a) (.bool b)).run P w = .ok () w := by
  cases op <;> simp [eqGuard]
theorem binK_sound {P : Program} {tab : Tab} (ht : TabOk P tab) {op : BinOp} {t : TypeId} {x y : AV} {K : AV → Prop} (h : binK tab op t x y K) (xo yo : Operand) :
    ∃ v, K v ∧ ∀ w, (do eqGuard op t xo yo x.den y.den; binOp op t x.den y.den : Sem Value).run P w = .ok v.den w := by
  unfold binK at h
  split at h
  · rename_i k a k' b
    cases op <;> simp only [] at h <;> first
      | exact h.elim
      | (have g_ := ck_spec h
         clear h
         obtain ⟨hk, hb, h⟩ := g_
         obtain rfl := sameK_eq hk
         exact ⟨_, h, fun w => by simp [run_eqGuard_int, AV.den, binOp, Op.intDiv, hb]⟩)
      | (have g_ := ck_spec h
         clear h
         obtain ⟨hk, h⟩ := g_
         obtain rfl := sameK_eq hk
         exact ⟨_, h, fun w => by simp [run_eqGuard_int, AV.den, binOp, Op.intArith, Op.intCmp, Op.intBits, ibits]⟩)
      | (obtain ⟨h0, h⟩ := h
         have hn : ¬ b < 0 := by omega
         exact ⟨_, h, fun w => by simp [run_eqGuard_int, AV.den, binOp, Op.shift, hn, shlI, shrI]⟩)
  · rename_i a b
    cases op <;> simp only [] at h <;> first
      | exact h.elim
      | (obtain ⟨hl, h⟩ := h
         refine ⟨_, h, fun w => ?_⟩
         have hm : ¬ ((a.size + b.size : Nat) : Int) > IntKind.i64.max := by
           have : IntKind.i64.max = 9223372036854775807 := rfl
           rw [this]; omega
         simp only [Sem.run_bind, run_eqGuard_str, AV.den, binOp, Op.stringOp, Result.andThen_ok, Sem.run_ite]
         rw [if_neg hm, catS_eq]; rfl)
      | exact ⟨_, h, fun w => by simp [run_eqGuard_str, AV.den, binOp, Op.stringOp, eqS_eq, ltS_eq]⟩
  · rename_i a b
    cases op <;> simp only [] at h <;> first
      | exact h.elim
      | (split at h
         · rename_i hi
           have hd := (ht.get hi).desc
           simp only [DescOk] at hd
           refine ⟨_, h, fun w => ?_⟩
           simp [run_eqGuard_bool, AV.den, binOp, Op.equal, Op.maxDepth, run_equalIn_bool' w 9999 t a b hd]
         · exact h.elim)
  · rename_i id n o id' n' o'
    split at h
    · rename_i e _ htt
      have hd := (ht.get htt).desc
      simp only [DescOk] at hd
      split at h
      · rename_i ei hei
        have g_ := ck_spec h
        clear h
        obtain ⟨hck, rfl, h⟩ := g_
        simp only [Bool.and_eq_true, Bool.not_eq_true'] at hck
        have hz : ei.sz ≠ 0 := by intro e'; rw [e'] at hck; cases hck.2
        obtain ⟨x, hx, _, hxs, _⟩ := (ht.get hei).info'
        have hxz : x.size ≠ 0 := by rw [hxs]; exact hz
        have hbeq : ∀ o o' : Nat, (Nat.beq o o') = (o == o') := fun o o' => by rw [Bool.eq_iff_iff]; simp [Nat.beq_eq]
        have heq : ∀ (d : Nat) (w : World), (Op.equalIn (d + 1) t (.pointer (some ⟨n, o, none⟩)) (.pointer (some ⟨n, o', none⟩))).run P w = .ok (Nat.beq o o') w := fun d w => by
          rw [hbeq]
          simp only [Op.equalIn, Sem.run_bind, run_underlying hd, Result.andThen_ok]
          simp [sizeOf, typeInfo, hx, hxz, sameAddr]
          by_cases hoo : o = o'
          · subst hoo; simp
          · rw [beq_eq_false_iff_ne.2 hoo, beq_eq_false_iff_ne]; simpa using hoo
        cases op <;> simp only [] at h <;> first
          | exact h.elim
          | exact ⟨_, h, fun w => by simp [eqGuard, AV.den, binOp, Op.equal, Op.maxDepth, heq 9999]⟩
      · exact h.elim
    · exact h.elim
  · rename_i l m
    split at h
    · rename_i i hi
      have g_ := ck_spec h
      clear h
      obtain ⟨heq, h⟩ := g_
      have ho := ht.get hi
      obtain ⟨_, hg, _⟩ := ho.eq heq
      split at h
      · rename_i b he
        refine ⟨_, h, fun w => ?_⟩
        have := run_eqAV ht w 100 t _ _ b 10000 (by omega) he
        simp only [AV.den] at this
        simp only [AV.den, Sem.run_bind, run_eqGuard_agg w .eql t xo yo _ _ hg, Result.andThen_ok, run_eql_struct, this]
      · rename_i b he
        refine ⟨_, h, fun w => ?_⟩
        have := run_eqAV ht w 100 t _ _ b 10000 (by omega) he
        simp only [AV.den] at this
        simp only [AV.den, Sem.run_bind, run_eqGuard_agg w .neq t xo yo _ _ hg, Result.andThen_ok, run_neq_struct, this]
      · exact h.elim
    · exact h.elim
  · exact h.elim
abbrev i6 (n : Int) : AV := .v (.int .i64 n)
abbrev bF : AV := .v (.bool false)
abbrev bT : AV := .v (.bool true)
abbrev Bd (i n : Int) : Prop := 0 ≤ i ∧ i < n
abbrev Sm {α : Type _} (x : α) : Prop := x = x
abbrev Bn (n : Nat) : Prop := n = n
end Go.Eng
