/- The engine: regions that draw their order. What hangs on no unordered write is taken first; of what is left one alone may come up. -/
import Derived.Test.YtilejaehbgljbaaDoorEngD
set_option linter.unusedSimpArgs false
namespace Go.Eng
open Go

def putT (T : TT) (d : Option Nat) (v : AV) : TT :=
  match d with
  | some d => (d, v) :: T
  | none => T

/-- What holds of a frame and the memory. -/
structure Gam (nt : Nat) (ds : List Deferred) (w0 : World) (fp : HH) (T : TT) (H : HH) (a : Act) (w : World) : Prop where
  tm : Matches T a.tmps
  sz : a.tmps.size = nt
  df : a.defers = ds
  hh : HeapOk w0 fp H w

theorem Matches.put {T : TT} {a : Act} (h : Matches T a.tmps) {d : Option Nat} (hd : ∀ x, d = some x → x < a.tmps.size) (v : AV) : Matches (putT T d v) (a.put d v.den).tmps := by
  cases d with
  | none => exact h
  | some d =>
    intro t av ht
    simp only [putT, TT.get] at ht
    simp only [Act.put]
    split at ht
    · rename_i e; subst e; cases ht
      have := hd d rfl
      simp [Array.getD_eq_getD_getElem?, this]
    · rename_i e
      rw [← h t av ht]
      simp [Array.getD_eq_getD_getElem?, Array.getElem?_setIfInBounds_ne e]

theorem Matches.setB {T : TT} {a : Act} (h : Matches T a.tmps) {d : Nat} {c : Bool} (hc : T.get d = some (.v (.bool c))) {b : Bool} (hb : c = b) : Matches ((d, .v (.bool b)) :: T) a.tmps := by
  intro t av ht
  simp only [TT.get] at ht
  split at ht
  · rename_i e; subst e; cases ht; rw [h d _ hc, hb]
  · exact h t av ht

theorem Gam.put {nt : Nat} {ds : List Deferred} {w0 : World} {fp : HH} {T : TT} {H H' : HH} {a : Act} {w w' : World} (g : Gam nt ds w0 fp T H a w) {d : Option Nat} (hd : ∀ x, d = some x → x < nt) (v : AV) (hh : HeapOk w0 fp H' w') :
    Gam nt ds w0 fp (putT T d v) H' (a.put d v.den) w' := by
  refine ⟨g.tm.put (by rw [g.sz]; exact hd) v, ?_, ?_, hh⟩
  · rw [← g.sz]; cases d <;> simp [Act.put]
  · rw [← g.df]; cases d <;> rfl

def dstOk (nt : Nat) (o : Oper) : Bool := match o.dst with | some d => decide (d < nt) | none => true

theorem getD_some {tmps : Array Value} {d : Nat} {x : Value} (h : tmps.getD d undef = x) (hd : d < tmps.size) : tmps[d]? = some x := by
  rw [Array.getElem?_eq_getElem hd]
  rw [Array.getD_eq_getD_getElem?, Array.getElem?_eq_getElem hd] at h
  exact congrArg some h

/-! ### Whatever order the tape gives -/

section
variable {P : Program} {ops : Array Oper} {Q : Exit → Act → World → Prop} {md : Region.Mode}

def wpAnyX (P : Program) (md : Region.Mode) (ops : Array Oper) (Q : Exit → Act → World → Prop) (prs : Nat → World → World → Prop) : Nat → Array Bool → Act → World → Prop
  | 0, listed, a, w => Region.ready md ops listed = [] ∧ Q .normal a w
  | n + 1, listed, a, w => (Region.ready md ops listed = [] → Q .normal a w) ∧
    ∀ i ∈ Region.ready md ops listed, wpOp P ops Q i (fun a' w' => prs i w w' ∧ wpAnyX P md ops Q prs n (listed.setIfInBounds i true) a' w') a w

theorem wpAnyX_any {prs : Nat → World → World → Prop} : ∀ (n : Nat) (listed : Array Bool) (a : Act) (w : World), wpAnyX P md ops Q prs n listed a w → wpAny P md ops Q n listed a w
  | 0, _, _, _, h => h
  | n + 1, _, _, _, h => ⟨h.1, fun i hi => wpOp_mono (fun a' w' h' => wpAnyX_any n _ a' w' h'.2) (h.2 i hi)⟩

theorem wpAnyX_first {prs prs' : Nat → World → World → Prop} {S : World → Prop} {i : Nat} {oi : Oper} {v : Value} (hi : ops[i]? = some oi) (hsel : ∀ (j : Nat) (o : Oper) cs b, ops[j]? = some o → o.op ≠ .select cs b)
    (hQ : ∀ c a w, Q (.panic c) (a.put oi.dst v) w → Q (.panic c) a w) (hp : ∀ j w w', prs' j w w' → prs j w w') (hr : ∀ w, prs i w w) :
    ∀ (n : Nat) (listed : Array Bool) (a : Act) (w : World),
      (∀ j oj, ops[j]? = some oj → j ≠ i → listed.getD j true = false → (∀ e ∈ oj.after, Region.binds md e = true → e.on ≠ i) → oi.apart ops oj = true ∧ ∀ w w', prs' j w w' → S w → S w') →
      i ∈ Region.ready md ops listed → YieldsIf P ops S oi v a → S w →
      wpAnyX P md ops Q prs' n (listed.setIfInBounds i true) (a.put oi.dst v) w → wpAnyX P md ops Q prs (n + 1) listed a w := by
  have weak : ∀ (n : Nat) (listed : Array Bool) (a : Act) (w : World), wpAnyX P md ops Q prs' n listed a w → wpAnyX P md ops Q prs n listed a w := by
    intro n
    induction n with
    | zero => intro _ _ _ h; exact h
    | succ n ih => intro _ _ _ h; exact ⟨h.1, fun k hk => wpOp_mono (fun _ _ h' => ⟨hp _ _ _ h'.1, ih _ _ _ h'.2⟩) (h.2 k hk)⟩
  intro n
  induction n with
  | zero =>
    intro listed a w _ hrd hy hS h
    refine ⟨fun e => (by rw [e] at hrd; cases hrd), fun j hj => ?_⟩
    by_cases hji : j = i
    · subst hji; exact hy.wpOp hi hS ⟨hr w, weak 0 _ _ _ h⟩
    · have := ready_mono hj hji
      rw [h.1] at this
      cases this
  | succ n ih =>
    intro listed a w hfree hrd hy hS h
    refine ⟨fun e => (by rw [e] at hrd; cases hrd), fun j hj => ?_⟩
    by_cases hji : j = i
    · subst hji; exact hy.wpOp hi hS ⟨hr w, weak _ _ _ _ h⟩
    · have hstep := h.2 j (ready_mono hj hji)
      obtain ⟨hun, oj, hoj, hall⟩ := mem_ready.1 hj
      have hno : ∀ e ∈ oj.after, Region.binds md e = true → e.on ≠ i := fun e he hb heq => by
        have h1 := hall e he hb
        have h0 := (mem_ready.1 hrd).1
        rw [heq] at h1
        rcases Nat.lt_or_ge i listed.size with h' | h'
        · simp [h'] at h0 h1; rw [h0] at h1; cases h1
        · simp [Array.getElem?_eq_none h'] at h1
      obtain ⟨hap, hpres⟩ := hfree j oj hoj hji hun hno
      have hput := wpOp_putIf hoj hap (fun cs b => hsel i oi cs b hi) (fun cs b => hsel j oj cs b hoj) hQ hy hstep
      refine wpOp_mono (fun a' w' hk => ⟨hp _ _ _ hk.2.1, ?_⟩) hput
      refine ih (listed.setIfInBounds j true) a' w' (fun k ok hk1 hk2 hk3 hk4 => ?_) (ready_mono hrd (Ne.symm hji)) hk.1 (hpres _ _ hk.2.1 hS) ?_
      · refine hfree k ok hk1 hk2 ?_ hk4
        by_cases hjk : j = k
        · subst hjk; exact hun
        · rw [getD_set_ne true hjk] at hk3; exact hk3
      · rw [Array.setIfInBounds_comm _ _ hji]
        exact hk.2.2
end

/-! ### The plan of a region -/

def moverKind (tab : Tab) (o : Op) : Bool :=
  match o with
  | .move _ | .assign _ | .pick .. | .build .. | .load .. | .nilCheck _ | .binOp .. | .unOp .. | .makeFunc .. | .makeInterface .. | .fieldAddr .. | .field .. | .indexAddr .. | .index .. | .extract .. | .slice .. => true
  | .convert _ d _ => (match tab.get d with | some ⟨_, _, _, .slice _, _⟩ => false | some _ => true | none => false)
  | .call c => (match c.callee with | .builtin .len | .builtin .min | .builtin .max | .builtin .cap => true | _ => false)
  | _ => false

def findIdx (p : Nat → Bool) : List Nat → Option Nat
  | [] => none
  | i :: l => if p i then some i else findIdx p l

def rdy (ops : List Oper) (listed : List Nat) : List Nat :=
  (List.range ops.length).filter fun i => !listed.contains i && (match nth ops i with | some o => o.after.toList.all fun e => !Region.binds .any e || listed.contains e.on | none => false)

def isMover (tab : Tab) (ops : List Oper) (i : Nat) : Bool := match nth ops i with | some o => moverKind tab o.op | none => false

/-- All ways through a region, movers first: do they keep to what the model lets? -/
def planOk (tab : Tab) (ops : Array Oper) : Nat → List Nat → Array Bool → Bool
  | 0, _, la => (Region.ready .any ops la).isEmpty
  | n + 1, listed, la =>
    let rs := rdy ops.toList listed
    (Region.ready .any ops la == rs) &&
    match findIdx (isMover tab ops.toList) rs with
    | some i => Region.free .any ops la i && planOk tab ops n (i :: listed) (la.setIfInBounds i true)
    | none => rs.all fun i => planOk tab ops n (i :: listed) (la.setIfInBounds i true)

abbrev Prot := List (Nat × Nat × Blk)

def dirEdge (o : Oper) (i : Nat) : Bool := o.after.toList.any fun e => Region.binds .any e && e.on == i

def protOk (o : Oper) (H : HH) : Prot → Prop → Prop
  | [], A => A
  | (i, id, b) :: r, A => match dirEdge o i with
    | true => protOk o H r A
    | false => nth H id = some b ∧ protOk o H r A

def protQ (q : Bool) (o : Oper) (H : HH) (prot : Prot) (A : Prop) : Prop :=
  match q with
  | true => A
  | false => protOk o H prot A

def idOf : AV → Option Nat
  | .ptr id _ _ => some id
  | .ep id _ _ _ _ => some id
  | .sl id _ _ _ _ _ => some id
  | _ => none

/-- What a load is protected by: the block that it reads. -/
def protOf (T : TT) (H : HH) (i : Nat) (o : Op) (prot : Prot) : Prot :=
  match o with
  | .load _ p | .convert _ _ p =>
    match (evalO T p).bind idOf with
    | some id => (match nth H id with | some b => (i, id, b) :: prot | none => prot)
    | none => prot
  | _ => prot

def allK : List Nat → (Nat → Prop) → Prop
  | [], _ => True
  | [i], f => f i
  | i :: l, f => f i ∧ allK l f

theorem allK_spec : ∀ {l : List Nat} {f : Nat → Prop}, allK l f → ∀ i ∈ l, f i
  | [], _, _, i, h => by simp at h
  | [j], f, h, i, hi => by simp at hi; subst hi; exact h
  | j :: k :: l, f, h, i, hi => by
    obtain ⟨h1, h2⟩ := h
    rcases List.mem_cons.1 hi with rfl | hi
    · exact h1
    · exact allK_spec h2 i hi

/-- One operation of a region: carried out, or passed over. 'go' is what follows. -/
def stepOp (tab : Tab) (tbl : Tbl) (ops : List Oper) (i : Nat) (mover : Bool) (T : TT) (H : HH) (prot : Prot) (go : TT → HH → Prot → Prop) : Prop :=
  match nth ops i with
  | none => False
  | some o =>
    match o.guard with
    | none => runOp tab tbl i mover o T H prot go
    | some (j, want) =>
      match (nth ops j).bind (·.dst) with
      | some d =>
        match T.get d with
        | some (.v (.bool c)) =>
          br c
            (match want with
             | true => runOp tab tbl i mover o ((d, .v (.bool true)) :: T) H prot go
             | false => go (putT ((d, .v (.bool true)) :: T) o.dst (.v undef)) H prot)
            (match want with
             | true => go (putT ((d, .v (.bool false)) :: T) o.dst (.v undef)) H prot
             | false => runOp tab tbl i mover o ((d, .v (.bool false)) :: T) H prot go)
        | some (.v (.tuple _)) => go (putT T o.dst (.v undef)) H prot
        | _ => False
      | none => False
where
  runOp (tab : Tab) (tbl : Tbl) (i : Nat) (mover : Bool) (o : Oper) (T : TT) (H : HH) (prot : Prot) (go : TT → HH → Prot → Prop) : Prop :=
    match mover with
    | true => opK tab tbl T H o.op fun v H' => go (putT T o.dst v) H' (protOf T H i o.op prot)
    | false => opK tab tbl T H o.op fun v H' => protQ (quiet tbl T o.op) o H' prot (go (putT T o.dst v) H' prot)

def execPlan (tab : Tab) (tbl : Tbl) (ops : List Oper) : Nat → List Nat → TT → HH → Prot → (TT → HH → Prop) → Prop
  | 0, _, T, H, _, K => K T H
  | n + 1, listed, T, H, prot, K =>
    match rdy ops listed with
    | [] => K T H
    | r :: rs =>
      match findIdx (isMover tab ops) (r :: rs) with
      | some i => stepOp tab tbl ops i true T H prot fun T' H' prot' => execPlan tab tbl ops n (i :: listed) T' H' prot' K
      | none => allK (r :: rs) fun i => stepOp tab tbl ops i false T H prot fun T' H' prot' => execPlan tab tbl ops n (i :: listed) T' H' prot' K

theorem findIdx_spec {p : Nat → Bool} : ∀ {l : List Nat} {i : Nat}, findIdx p l = some i → i ∈ l ∧ p i = true
  | [], _, h => by simp [findIdx] at h
  | j :: l, i, h => by
    simp only [findIdx] at h
    split at h
    · rename_i hp; cases h; exact ⟨by simp, hp⟩
    · obtain ⟨h1, h2⟩ := findIdx_spec h; exact ⟨by simp [h1], h2⟩

/-- The order in which the calls of a run have come up so far may bind them so. -/
def prsOf (ops : Array Oper) (prot : Prot) (j : Nat) (w w' : World) : Prop :=
  ∀ i id b, (i, id, b) ∈ prot → (match ops[j]? with | some o => dirEdge o i = false | none => True) → b.c.holds w b.num → b.c.holds w' b.num

theorem protOk_spec {o : Oper} {H : HH} {A : Prop} : ∀ {prot : Prot}, protOk o H prot A → A ∧ ∀ i id b, (i, id, b) ∈ prot → dirEdge o i = false → nth H id = some b
  | [], h => ⟨h, fun _ _ _ hm => by simp at hm⟩
  | (k, kd, c) :: r, h => by
    simp only [protOk] at h
    cases hd : dirEdge o k with
    | true =>
      rw [hd] at h
      obtain ⟨h1, h2⟩ := protOk_spec h
      refine ⟨h1, fun i id b hm hf => ?_⟩
      rcases List.mem_cons.1 hm with e | hm
      · cases e; rw [hd] at hf; cases hf
      · exact h2 i id b hm hf
    | false =>
      rw [hd] at h
      obtain ⟨h0, h⟩ := h
      obtain ⟨h1, h2⟩ := protOk_spec h
      refine ⟨h1, fun i id b hm hf => ?_⟩
      rcases List.mem_cons.1 hm with e | hm
      · cases e; exact h0
      · exact h2 i id b hm hf

theorem loadK_yields {P : Program} {tab : Tab} (ht : TabOk P tab) {H : HH} {t : TypeId} {p : AV} {K : AV → Prop} (h : loadK tab H t p K) :
    ∃ v, K v ∧ ∃ id b, nth H id = some b ∧ idOf p = some id ∧ ∀ w, b.c.holds w b.num → (Instr.loadAt t p.den).run P w = .ok v.den w := by
  unfold loadK at h
  split at h
  · rename_i id n o
    split at h
    · rename_i m l ty own hb
      obtain ⟨rfl, h⟩ := h
      split at h
      · rename_i v hv
        refine ⟨v, h, id, _, hb, rfl, fun w hc => ?_⟩
        simp only [Cont.holds] at hc
        have := run_loadVar_part ht (w := w) (n := n) (base := 0) (fun j x hj => by rw [cell_of hc]; simp [denL_get hj]) hv
        simp only [Nat.zero_add] at this
        simp [Instr.loadAt, AV.den, Instr.sureAddr, this]
      · exact h.elim
    · exact h.elim
  · rename_i id n i sz j
    split at h
    · rename_i m N cs ty own hb
      have g_ := ck_spec h
      clear h
      obtain ⟨hs, rfl, hi, h⟩ := g_
      obtain rfl := Nat.eq_of_beq_eq_true hs
      split at h
      · rename_i v hv
        refine ⟨v, h, id, _, hb, rfl, fun w hc => ?_⟩
        obtain ⟨c, hc, hcs, hcc⟩ := hc
        have := run_loadVar_part ht (w := w) (n := n) (base := i * cs.length) (fun k x hk => by rw [cell_of hc]; exact hcc i hi k x hk) hv
        simp [Instr.loadAt, AV.den, Instr.sureAddr, this]
      · exact h.elim
    · rename_i m l ty own hb
      obtain ⟨rfl, h⟩ := h
      split at h
      · rename_i v hv
        refine ⟨v, h, id, _, hb, rfl, fun w hc => ?_⟩
        simp only [Cont.holds] at hc
        have := run_loadVar_part ht (w := w) (n := n) (base := 0) (fun j x hj => by rw [cell_of hc]; simp [denL_get hj]) hv
        simp only [Nat.zero_add] at this
        simp [Instr.loadAt, AV.den, Instr.sureAddr, this]
      · exact h.elim
    · exact h.elim
  · exact h.elim

/-- A mover yields its value in every world in which the block that it reads is as it is. -/
theorem mover_yields {P : Program} {tab : Tab} {tbl : Tbl} (ht : TabOk P tab) {T : TT} {H : HH} {a : Act} {o : Oper} {K : AV → HH → Prop} (hm : Matches T a.tmps) (hk : moverKind tab o.op = true) (h : opK tab tbl T H o.op K) (i : Nat) (prot : Prot) :
    ∃ v, K v H ∧ ∃ S : World → Prop, (∀ w, HoldsH H w → S w) ∧ (∀ w, S w → (execOp a.eval o).run P w = .ok (.value v.den) w) ∧
      ((∀ w, S w) ∨ ∃ id b, protOf T H i o.op prot = (i, id, b) :: prot ∧ S = fun w => b.c.holds w b.num) := by
  have pure_case : ∀ {K' : AV → Prop}, pureK tab T o.op K' → (∀ v, K' v → K v H) → ∃ v, K v H ∧ ∃ S : World → Prop, (∀ w, HoldsH H w → S w) ∧ (∀ w, S w → (execOp a.eval o).run P w = .ok (.value v.den) w) ∧
      ((∀ w, S w) ∨ ∃ id b, protOf T H i o.op prot = (i, id, b) :: prot ∧ S = fun w => b.c.holds w b.num) := by
    intro K' h hk
    obtain ⟨v, hv, hr⟩ := pureK_sound ht hm h
    exact ⟨v, hk v hv, fun _ => True, fun _ _ => trivial, fun w _ => hr w, .inl fun _ => trivial⟩
  unfold opK at h
  split at h
  · rename_i c x y ho
    obtain ⟨cv, hc, h⟩ := evalK_sound hm h
    split at h
    · rename_i t
      cases t
      · obtain ⟨v, hv, h⟩ := evalK_sound hm h
        exact ⟨v, h, fun _ => True, fun _ _ => trivial, fun w _ => by simp [execOp, ho, hc, AV.den, asBool, hv], .inl fun _ => trivial⟩
      · obtain ⟨v, hv, h⟩ := evalK_sound hm h
        exact ⟨v, h, fun _ => True, fun _ _ => trivial, fun w _ => by simp [execOp, ho, hc, AV.den, asBool, hv], .inl fun _ => trivial⟩
    · exact h.elim
  · rename_i e ho; rw [ho] at hk; simp [moverKind] at hk
  · rename_i e x ho; rw [ho] at hk; simp [moverKind] at hk
  · rename_i t p ho
    unfold evalK at h
    split at h
    · rename_i pv hpv
      have hp := evalO_sound hm hpv
      obtain ⟨v, hv, id, b, hb, hid, hr⟩ := loadK_yields ht h
      refine ⟨v, hv, fun w => b.c.holds w b.num, fun w hw => hw.all id b (by rw [← nth_eq]; exact hb), fun w hw => by simp [execOp, ho, hp, hr w hw], .inr ⟨id, b, ?_, rfl⟩⟩
      simp only [protOf, ho, hpv, Option.bind_some, hid, hb]
    · exact h.elim
  · rename_i t p x ho; rw [ho] at hk; simp [moverKind] at hk
  · rename_i s d x ho
    unfold evalK at h
    split at h
    · rename_i p hpv
      have hp := evalO_sound hm hpv
      split at h
      · rename_i e eq hd
        rw [ho] at hk
        simp [moverKind, hd] at hk
      · rename_i eq hd
        have hdd := (ht.get hd).desc
        simp only [DescOk] at hdd
        split at h
        · rename_i id n r sz len cap
          obtain ⟨t, b, hb', hk', hr⟩ := readK_sound (cap := cap) ht hdd h
          refine ⟨.v (.string t), hk', fun w => b.c.holds w b.num, fun w hw => hw.all id b (by rw [← nth_eq]; exact hb'), fun w hw => by
            have := hr w hw
            simp only [execOp, ho, hp, Sem.run_bind, this, Result.andThen_ok, Sem.run_pure]; rfl, .inr ⟨id, b, ?_, rfl⟩⟩
          simp only [protOf, ho, hpv, Option.bind_some, idOf, hb']
        · rw [← ho] at h
          exact pure_case h fun v hv => hv
      · rw [← ho] at h
        exact pure_case h fun v hv => hv
      · exact h.elim
    · exact h.elim
  · rename_i t len parts ho; rw [ho] at hk; simp [moverKind] at hk
  · rename_i c ho
    split at h
    · rename_i f hf; rw [ho] at hk; simp [moverKind, hf] at hk
    · rw [← ho] at h
      exact pure_case h fun v hv => hv
  · exact pure_case h fun v hv => hv

section
variable {P : Program} {tab : Tab} {tbl : Tbl} {nt : Nat} {ds : List Deferred} {w0 : World} {fp : HH} {Q : Exit → Act → World → Prop}

theorem execPlan_sound (ht : TabOk P tab) (hb : TblOk P tbl) (ops : Array Oper) (hok : ops.toList.all (dstOk nt) = true) (hns : Region.noSelect ops = true) (hQ : ∀ (c : List PanicEntry) (d : Option Tmp) (v : Value) (a : Act) (w : World), Q (.panic c) (a.put d v) w → Q (.panic c) a w) :
    ∀ (n : Nat) (lst : List Nat) (listed : Array Bool) (T : TT) (H : HH) (prot : Prot) (K : TT → HH → Prop) (a : Act) (w : World), planOk tab ops n lst listed = true → Gam nt ds w0 fp T H a w → execPlan tab tbl ops.toList n lst T H prot K →
      (∀ T' H' a' w', K T' H' → Gam nt ds w0 fp T' H' a' w' → Q .normal a' w') → wpAnyX P .any ops Q (prsOf ops prot) n listed a w := by
  intro n
  induction n with
  | zero =>
    intro lst listed T H prot K a w hpo g h hq
    simp only [planOk, List.isEmpty_iff] at hpo
    exact ⟨hpo, hq _ _ _ _ h g⟩
  | succ n ih =>
    intro lst listed T H prot K a w hpo g h hq
    simp only [planOk, Bool.and_eq_true, beq_iff_eq] at hpo
    obtain ⟨hrd, hpo⟩ := hpo
    -- what one operation comes to
    have hstep : ∀ (i : Nat) (m : Bool), i ∈ Region.ready .any ops listed → (m = true → isMover tab ops.toList i = true ∧ Region.free .any ops listed i = true) → planOk tab ops n (i :: lst) (listed.setIfInBounds i true) = true →
        (stepOp tab tbl ops.toList i m T H prot fun T' H' prot' => execPlan tab tbl ops.toList n (i :: lst) T' H' prot' K) →
        (m = true → wpAnyX P .any ops Q (prsOf ops prot) (n + 1) listed a w) ∧
        (m = false → wpOp P ops Q i (fun a' w' => prsOf ops prot i w w' ∧ wpAnyX P .any ops Q (prsOf ops prot) n (listed.setIfInBounds i true) a' w') a w) := by
      intro i m hir hm hrest h
      unfold stepOp at h
      split at h
      · exact h.elim
      · rename_i o ho
        rw [nth_eq] at ho
        have hi : ops[i]? = some o := by simpa using ho
        have hmem : o ∈ ops.toList := List.mem_of_getElem? ho
        have hdst : ∀ x, o.dst = some x → x < nt := by
          intro x hx
          have := List.all_eq_true.1 hok o hmem
          simp only [dstOk, hx] at this
          exact of_decide_eq_true this
        have hrun : ∀ (T1 : TT), Region.wanted o (yielded ops a.tmps) = true → Gam nt ds w0 fp T1 H a w → stepOp.runOp tab tbl i m o T1 H prot (fun T' H' prot' => execPlan tab tbl ops.toList n (i :: lst) T' H' prot' K) →
            (m = true → wpAnyX P .any ops Q (prsOf ops prot) (n + 1) listed a w) ∧
            (m = false → wpOp P ops Q i (fun a' w' => prsOf ops prot i w w' ∧ wpAnyX P .any ops Q (prsOf ops prot) n (listed.setIfInBounds i true) a' w') a w) := by
          intro T1 hw g1 h1
          unfold stepOp.runOp at h1
          cases m with
          | true =>
            simp only [] at h1
            refine ⟨fun _ => ?_, fun e => by cases e⟩
            obtain ⟨hmk, hfree⟩ := hm rfl
            have hmk : moverKind tab o.op = true := by
              unfold isMover at hmk
              rw [nth_eq, ho] at hmk
              exact hmk
            obtain ⟨v, hk, S, hS, hrun, hS'⟩ := mover_yields ht g1.tm hmk h1 i prot
            have hx := ih _ _ _ _ _ K (a.put o.dst v.den) w hrest (g1.put hdst v g1.hh) hk hq
            refine wpAnyX_first (S := S) hi (Region.noSelect_spec hns) (fun c a w => hQ c o.dst v.den a w) ?_ (fun w i' id b _ _ hb => hb) n listed a w ?_ hir (.inl ⟨hw, hrun⟩) (hS w g1.hh.hp) hx
            · intro j w1 w2 hp i' id b hm hd
              refine hp i' id b ?_ hd
              rcases hS' with hS' | ⟨id', b', hpr, _⟩
              · unfold protOf
                split
                · split
                  · split <;> simp [hm]
                  · exact hm
                · split
                  · split <;> simp [hm]
                  · exact hm
                · exact hm
              · rw [hpr]; simp [hm]
            · intro j oj hj hji hun hno
              refine ⟨Region.free_spec hi hfree j oj hj hji hun hno, fun w1 w2 hp hs => ?_⟩
              rcases hS' with hS' | ⟨id', b', hpr, hSe⟩
              · exact hS' w2
              · rw [hSe] at hs ⊢
                refine hp i id' b' (by rw [hpr]; simp) ?_ hs
                rw [hj]
                simp only [dirEdge]
                rw [List.any_eq_false]
                intro e he
                have := hno e (by simpa using he)
                simp only [Bool.and_eq_true, beq_iff_eq, not_and]
                exact this
          | false =>
            simp only [] at h1
            refine ⟨fun e => (by cases e), fun _ => ?_⟩
            unfold wpOp
            simp only [hi, hw, if_true]
            refine .inl (Oper.wp_mono (fun a' w' hp => ?_) (opK_sound (Q := Q) ht hb g1.tm g1.hh h1))
            obtain ⟨v, H', hk', hh', rfl, hqt⟩ := hp
            cases hqq : quiet tbl T1 o.op with
            | true =>
              rw [hqq] at hk' hqt
              exact ⟨fun i' id b hm hd hbb => (hqt rfl).holds hbb, ih _ _ _ _ _ K _ w' hrest (g1.put hdst v hh') hk' hq⟩
            | false =>
              rw [hqq] at hk'
              obtain ⟨hk2, hprot⟩ := protOk_spec hk'
              refine ⟨fun i' id b hm hd _ => ?_, ih _ _ _ _ _ K _ w' hrest (g1.put hdst v hh') hk2 hq⟩
              rw [hi] at hd
              exact hh'.hp.all id b (by rw [← nth_eq]; exact hprot i' id b hm hd)
        have hskip : ∀ (T1 : TT), Region.wanted o (yielded ops a.tmps) = false → Gam nt ds w0 fp T1 H a w → execPlan tab tbl ops.toList n (i :: lst) (putT T1 o.dst (.v undef)) H prot K →
            (m = true → wpAnyX P .any ops Q (prsOf ops prot) (n + 1) listed a w) ∧
            (m = false → wpOp P ops Q i (fun a' w' => prsOf ops prot i w w' ∧ wpAnyX P .any ops Q (prsOf ops prot) n (listed.setIfInBounds i true) a' w') a w) := by
          intro T1 hw g1 h1
          have hx := ih _ _ _ _ _ K (a.put o.dst undef) w hrest (g1.put hdst (.v undef) g1.hh) h1 hq
          refine ⟨fun e => ?_, fun _ => ?_⟩
          · obtain ⟨_, hfree⟩ := hm e
            exact wpAnyX_first (S := fun _ => True) (v := undef) hi (Region.noSelect_spec hns) (fun c a w => hQ c o.dst undef a w) (fun _ _ _ hp => hp) (fun w i' id b _ _ hb => hb) n listed a w
              (fun j oj hj hji hun hno => ⟨Region.free_spec hi hfree j oj hj hji hun hno, fun _ _ _ _ => trivial⟩) hir (.inr ⟨hw, rfl⟩) trivial hx
          · unfold wpOp
            simp only [hi, hw, Bool.false_eq_true, if_false]
            exact ⟨fun i' id b _ _ hb => hb, hx⟩
        split at h
        · rename_i hg
          have hw : Region.wanted o (yielded ops a.tmps) = true := by simp [Region.wanted, hg]
          exact hrun T hw g h
        · rename_i j want hg
          split at h
          · rename_i d hd
            split at h
            · rename_i c hc
              have hdd : ∃ oj, ops[j]? = some oj ∧ oj.dst = some d := by
                cases hj : nth ops.toList j with
                | none => simp [hj] at hd
                | some oj => simp only [hj, Option.bind_some] at hd; rw [nth_eq] at hj; exact ⟨oj, by simpa using hj, hd⟩
              obtain ⟨oj, hj, hjd⟩ := hdd
              have hjm : oj ∈ ops.toList := List.mem_of_getElem? (i := j) (by simpa using hj)
              have hdnt : d < nt := by
                have := List.all_eq_true.1 hok oj hjm
                simp only [dstOk, hjd] at this
                exact of_decide_eq_true this
              have hval := g.tm d _ hc
              have hy : yielded ops a.tmps j = some c := by
                simp only [yielded, hj, Option.bind_some, hjd]
                rw [getD_some hval (by rw [g.sz]; exact hdnt)]
                rfl
              have hw : Region.wanted o (yielded ops a.tmps) = (c == want) := by
                simp only [Region.wanted, hg, hy]
                cases c <;> cases want <;> rfl
              cases c
              · have g1 : Gam nt ds w0 fp ((d, .v (.bool false)) :: T) H a w := ⟨g.tm.setB hc rfl, g.sz, g.df, g.hh⟩
                simp only [br_false] at h
                cases want <;> simp only [] at h
                · exact hrun _ hw g1 h
                · exact hskip _ hw g1 h
              · have g1 : Gam nt ds w0 fp ((d, .v (.bool true)) :: T) H a w := ⟨g.tm.setB hc rfl, g.sz, g.df, g.hh⟩
                simp only [br_true] at h
                cases want <;> simp only [] at h
                · exact hskip _ hw g1 h
                · exact hrun _ hw g1 h
            · rename_i c hc
              have hdd : ∃ oj, ops[j]? = some oj ∧ oj.dst = some d := by
                cases hj : nth ops.toList j with
                | none => simp [hj] at hd
                | some oj => simp only [hj, Option.bind_some] at hd; rw [nth_eq] at hj; exact ⟨oj, by simpa using hj, hd⟩
              obtain ⟨oj, hj, hjd⟩ := hdd
              have hjm : oj ∈ ops.toList := List.mem_of_getElem? (i := j) (by simpa using hj)
              have hdnt : d < nt := by
                have := List.all_eq_true.1 hok oj hjm
                simp only [dstOk, hjd] at this
                exact of_decide_eq_true this
              have hval := g.tm d _ hc
              have hy : yielded ops a.tmps j = none := by
                simp only [yielded, hj, Option.bind_some, hjd]
                rw [getD_some hval (by rw [g.sz]; exact hdnt)]
                rfl
              have hw : Region.wanted o (yielded ops a.tmps) = false := by
                simp only [Region.wanted, hg, hy]
                cases want <;> rfl
              exact hskip _ hw g h
            · exact h.elim
          · exact h.elim
    simp only [execPlan] at h
    split at h
    · rename_i he
      rw [he] at hrd
      exact ⟨fun _ => hq _ _ _ _ h g, fun i hi => by rw [hrd] at hi; simp at hi⟩
    · rename_i r rs he
      rw [he] at hrd hpo
      split at h
      · rename_i i hfi
        rw [hfi] at hpo
        simp only [Bool.and_eq_true] at hpo
        obtain ⟨hin, hmv⟩ := findIdx_spec hfi
        exact (hstep i true (by rw [hrd]; exact hin) (fun _ => ⟨hmv, hpo.1⟩) hpo.2 h).1 rfl
      · rename_i hfi
        rw [hfi] at hpo
        simp only [] at hpo
        refine ⟨fun e => (by rw [hrd] at e; cases e), fun i hi => ?_⟩
        rw [hrd] at hi
        exact (hstep i false (by rw [hrd]; exact hi) (fun e => by cases e) (List.all_eq_true.1 hpo i hi) (allK_spec h i hi)).2 rfl
end
end Go.Eng
