import Derived.Test.YthnkafambegbcaaEngX
set_option linter.unusedSimpArgs false
namespace Go.Eng
open Go Go.Sp
def putT (T : TT) (d : Option Nat) (v : AV) : TT :=
  match d with
  | some d => (d, v) :: T
  | none => T
def markOf (r : Nat) : Deferred := { target := .collected r, args := #[] }
structure DS where
  l : List Deferred
  s : Bool
def DS.nil : DS := ⟨[], false⟩
structure Gam (nt : Nat) (ds : DS) (w0 : World) (fp : HH) (T : TT) (H : HH) (a : Act) (w : World) : Prop where
  tm : Matches T a.tmps
  sz : a.tmps.size = nt
  df : ∃ rs : List Nat, a.defers = rs.map markOf ++ ds.l ∧ (ds.s = true → rs = []) ∧ rs.Nodup ∧ ∀ r ∈ rs, w.heap[r]? = some (.deferred (some [])) ∧ w0.heap.size ≤ r ∧ ∀ (i : Nat) (b : Blk), H[i]? = some b → r ∉ b.nums
  hh : HeapOk w0 fp H w
theorem df_step {w0 w w' : World} {H H' : HH} {ds : DS} {l : List Deferred} (e : Ext H H' w w')
    (h : ∃ rs : List Nat, l = rs.map markOf ++ ds.l ∧ (ds.s = true → rs = []) ∧ rs.Nodup ∧ ∀ r ∈ rs, w.heap[r]? = some (.deferred (some [])) ∧ w0.heap.size ≤ r ∧ ∀ (i : Nat) (b : Blk), H[i]? = some b → r ∉ b.nums) :
    ∃ rs : List Nat, l = rs.map markOf ++ ds.l ∧ (ds.s = true → rs = []) ∧ rs.Nodup ∧ ∀ r ∈ rs, w'.heap[r]? = some (.deferred (some [])) ∧ w0.heap.size ≤ r ∧ ∀ (i : Nat) (b : Blk), H'[i]? = some b → r ∉ b.nums := by
  obtain ⟨rs, h1, hs, h2, h3⟩ := h
  refine ⟨rs, h1, hs, h2, fun r hr => ?_⟩
  obtain ⟨g1, g2, g3⟩ := h3 r hr
  have hlt : r < w.heap.size := (Array.getElem?_eq_some_iff.1 g1).1
  refine ⟨?_, g2, fun i b hb hn => ?_⟩
  · rw [e.fr.block r hlt (fun hm => ?_)]
    · exact g1
    · obtain ⟨j, d, hj, _, hd⟩ := mem_ownNums hm
      exact g3 j d hj hd
  · rcases e.src i b hb r hn with ⟨j, d, hj, hd, _⟩ | hx
    · exact g3 j d hj hd
    · omega
theorem Gam.ext {nt : Nat} {ds : DS} {w0 : World} {fp : HH} {T : TT} {H H' : HH} {a : Act} {w w' : World} (g : Gam nt ds w0 fp T H a w) (e : Ext H H' w w') : Gam nt ds w0 fp T H' a w' :=
  ⟨g.tm, g.sz, df_step e g.df, g.hh.ext e⟩
theorem Matches.put {T : TT} {a : Act} (h : Matches T a.tmps) {d : Option Nat} (hd : ∀ x, d = some x → x < a.tmps.size) (v : AV) : Matches (putT T d v) (a.put d v.den).tmps := by
  cases d with
  | none => exact h
  | some d =>
    intro t av ht
    simp only [putT, TT.get] at ht
    simp only [Act.put]
    split at ht
    · rename_i e; subst e; cases ht
      have := hd d rfl
      simp [Array.getD_eq_getD_getElem?, this]
    · rename_i e
      rw [← h t av ht]
      simp [Array.getD_eq_getD_getElem?, Array.getElem?_setIfInBounds_ne e]
theorem Matches.setB {T : TT} {a : Act} (h : Matches T a.tmps) {d : Nat} {c : Bool} (hc : T.get d = some (.v (.bool c))) {b : Bool} (hb : c = b) : Matches ((d, .v (.bool b)) :: T) a.tmps := by
  intro t av ht
  simp only [TT.get] at ht
  split at ht
  · rename_i e; subst e; cases ht; rw [h d _ hc, hb]
  · exact h t av ht
theorem Gam.put {nt : Nat} {ds : DS} {w0 : World} {fp : HH} {T : TT} {H H' : HH} {a : Act} {w w' : World} (g : Gam nt ds w0 fp T H a w) {d : Option Nat} (hd : ∀ x, d = some x → x < nt) (v : AV) (e : Ext H H' w w') :
    Gam nt ds w0 fp (putT T d v) H' (a.put d v.den) w' := by
  refine ⟨g.tm.put (by rw [g.sz]; exact hd) v, ?_, ?_, g.hh.ext e⟩
  · rw [← g.sz]; cases d <;> simp [Act.put]
  · have := df_step e g.df
    cases d <;> exact this
theorem Ext.refl' {H : HH} {w : World} (h : HoldsH H w) : Ext H H w w := (HeapOk.enter h).toExt
theorem Gam.tt {nt : Nat} {ds : DS} {w0 : World} {fp : HH} {T T' : TT} {H : HH} {a : Act} {w : World} (g : Gam nt ds w0 fp T H a w) (h : Matches T' a.tmps) : Gam nt ds w0 fp T' H a w := ⟨h, g.sz, g.df, g.hh⟩
def dstOk (nt : Nat) (o : Oper) : Bool := match o.dst with | some d => decide (d < nt) | none => true
theorem getD_some {tmps : Array Value} {d : Nat} {x : Value} (h : tmps.getD d undef = x) (hd : d < tmps.size) : tmps[d]? = some x := by
  rw [Array.getElem?_eq_getElem hd]
  rw [Array.getD_eq_getD_getElem?, Array.getElem?_eq_getElem hd] at h
  exact congrArg some h
section
variable {P : Program} {ops : Array Oper} {Q : Exit → Act → World → Prop} {md : Region.Mode}
theorem yieldsIf_wpOpIn {S : World → Prop} {ro : Option Nat} (hnd : ∀ (j : Nat) (o : Oper), ops[j]? = some o → ∀ c, o.op ≠ .defer c) {i : Nat} {o : Oper} {v : Value} {a : Act} (hi : ops[i]? = some o) (hy : YieldsIf P ops S o v a)
    {K : Act → World → Prop} {w : World} (hS : S w) (h : K (a.put o.dst v) w) : wpOpIn (FW ro) 0 P ops Q i K a w := by
  unfold Go.wpOpIn
  simp only [hi]
  rcases hy with ⟨hw, hv⟩ | ⟨hw, rfl⟩
  · simp only [hw, if_true, Oper.wpIn, Oper.semAt_eq _ _ _ (hnd i o hi), hv w hS, Oper.uponIn]; exact ⟨fun _ _ => trivial, h⟩
  · simp only [hw, Bool.false_eq_true, if_false]; exact ⟨fun _ _ => trivial, h⟩
theorem wpOpIn_putIf {S : World → Prop} {ro : Option Nat} (hnd : ∀ (j : Nat) (o : Oper), ops[j]? = some o → ∀ c, o.op ≠ .defer c) {j : Nat} {oi oj : Oper} {v : Value} (hj : ops[j]? = some oj) (hap : oi.apart ops oj = true)
    (hsi : ∀ cs b, oi.op ≠ .select cs b) (hsj : ∀ cs b, oj.op ≠ .select cs b)
    (hQ : ∀ c a w, Q (.panic c) (a.put oi.dst v) w → Q (.panic c) a w) {K : Act → World → Prop} {a : Act} {w : World}
    (hy : YieldsIf P ops S oi v a) (h : wpOpIn (FW ro) 0 P ops Q j K (a.put oi.dst v) w) :
    wpOpIn (FW ro) 0 P ops Q j (fun a' w' => YieldsIf P ops S oi v a' ∧ K (a'.put oi.dst v) w') a w := by
  obtain ⟨h1, h2, h3⟩ := Oper.apart_spec hap
  have keep : ∀ (a : Act), YieldsIf P ops S oi v a → ∀ u, YieldsIf P ops S oi v (a.put oj.dst u) := fun a hy u =>
    hy.of_same (execOp_put oi hsi a oj.dst u h3) (wanted_put oi a oj.dst u h3)
  have keepD : ∀ d, YieldsIf P ops S oi v { a with defers := d :: a.defers } := fun d => hy.of_same rfl rfl
  have hnj := hnd j oj hj
  unfold wpOpIn at *
  simp only [hj] at h ⊢
  rw [wanted_put oj a oi.dst v h1] at h
  split
  · rename_i hw
    simp only [hw, if_true] at h
    unfold Oper.wpIn at *
    refine ⟨fun _ _ => trivial, ?_⟩
    have h := h.2
    rw [Oper.semAt_eq _ _ _ hnj, execOp_put oj hsj a oi.dst v h1] at h
    rw [Oper.semAt_eq _ _ _ hnj]
    generalize (execOp a.eval oj).run P w = r at *
    cases r with
    | ok x w' =>
      cases x <;> simp only [Oper.uponIn] at h ⊢
      case value u => exact ⟨keep a hy u, by rw [← Act.put_comm a v u h2]; exact h⟩
      case skip => exact ⟨keep a hy _, by rw [← Act.put_comm a v undef h2]; exact h⟩
      case defer d =>
        refine ⟨keep _ (keepD d) _, ?_⟩
        rw [← Act.put_comm _ v undef h2, ← Act.put_defers]
        exact h
      case enter f args =>
        refine ⟨h.1, CallsIn.mono h.2 fun e w'' he => ?_⟩
        cases e with
        | returned u => exact ⟨keep a hy u, by rw [← Act.put_comm a v u h2]; exact he⟩
        | panicked c => exact hQ _ _ _ he
        | outgrown => exact he
      case row row args => exact ⟨h.1, RowsIn.mono h.2 fun u w'' he => ⟨keep a hy u, by rw [← Act.put_comm a v u h2]; exact he⟩⟩
      case round l f tmps assign body =>
        refine ⟨h.1, RoundIn.mono h.2 fun e w'' he => ?_⟩
        cases e with
        | returned u => exact ⟨keep a hy u, by rw [← Act.put_comm a v u h2]; exact he⟩
        | panicked c => exact hQ _ _ _ he
        | outgrown => exact he
    | halt x w' =>
      cases x <;> simp only [Oper.uponIn] at h ⊢
      case panic u => exact hQ _ _ _ h
  · rename_i hw
    simp only [hw] at h
    exact ⟨fun _ _ => trivial, keep a hy _, by rw [← Act.put_comm a v undef h2]; exact h.2⟩
def wpAnyX (ro : Option Nat) (P : Program) (md : Region.Mode) (ops : Array Oper) (Q : Exit → Act → World → Prop) (prs : Nat → World → World → Prop) : Nat → Array Bool → Act → World → Prop
  | 0, listed, a, w => Region.ready md ops listed = [] ∧ Q .normal a w
  | n + 1, listed, a, w => (Region.ready md ops listed = [] → Q .normal a w) ∧
    ∀ i ∈ Region.ready md ops listed, wpOpIn (FW ro) 0 P ops Q i (fun a' w' => prs i w w' ∧ wpAnyX ro P md ops Q prs n (listed.setIfInBounds i true) a' w') a w
theorem wpAnyX_any {ro : Option Nat} {prs : Nat → World → World → Prop} : ∀ (n : Nat) (listed : Array Bool) (a : Act) (w : World), wpAnyX ro P md ops Q prs n listed a w → wpAnyIn (FW ro) 0 P md ops Q n listed a w
  | 0, _, _, _, h => h
  | n + 1, _, _, _, h => ⟨h.1, fun i hi => wpOpIn_mono (fun a' w' h' => wpAnyX_any n _ a' w' h'.2) (h.2 i hi)⟩
theorem wpAnyX_first {ro : Option Nat} (hnd : ∀ (j : Nat) (o : Oper), ops[j]? = some o → ∀ c, o.op ≠ .defer c) {prs prs' : Nat → World → World → Prop} {S : World → Prop} {i : Nat} {oi : Oper} {v : Value} (hi : ops[i]? = some oi) (hsel : ∀ (j : Nat) (o : Oper) cs b, ops[j]? = some o → o.op ≠ .select cs b)
    (hQ : ∀ c a w, Q (.panic c) (a.put oi.dst v) w → Q (.panic c) a w) (hp : ∀ j w w', prs' j w w' → prs j w w') (hr : ∀ w, prs i w w) :
    ∀ (n : Nat) (listed : Array Bool) (a : Act) (w : World),
      (∀ j oj, ops[j]? = some oj → j ≠ i → listed.getD j true = false → (∀ e ∈ oj.after, Region.binds md e = true → e.on ≠ i) → oi.apart ops oj = true ∧ ∀ w w', prs' j w w' → S w → S w') →
      i ∈ Region.ready md ops listed → YieldsIf P ops S oi v a → S w →
      wpAnyX ro P md ops Q prs' n (listed.setIfInBounds i true) (a.put oi.dst v) w → wpAnyX ro P md ops Q prs (n + 1) listed a w := by
  have weak : ∀ (n : Nat) (listed : Array Bool) (a : Act) (w : World), wpAnyX ro P md ops Q prs' n listed a w → wpAnyX ro P md ops Q prs n listed a w := by
    intro n
    induction n with
    | zero => intro _ _ _ h; exact h
    | succ n ih => intro _ _ _ h; exact ⟨h.1, fun k hk => wpOpIn_mono (fun _ _ h' => ⟨hp _ _ _ h'.1, ih _ _ _ h'.2⟩) (h.2 k hk)⟩
  intro n
  induction n with
  | zero =>
    intro listed a w _ hrd hy hS h
    refine ⟨fun e => (by rw [e] at hrd; cases hrd), fun j hj => ?_⟩
    by_cases hji : j = i
    · subst hji; exact yieldsIf_wpOpIn hnd hi hy hS ⟨hr w, weak 0 _ _ _ h⟩
    · have := ready_mono hj hji
      rw [h.1] at this
      cases this
  | succ n ih =>
    intro listed a w hfree hrd hy hS h
    refine ⟨fun e => (by rw [e] at hrd; cases hrd), fun j hj => ?_⟩
    by_cases hji : j = i
    · subst hji; exact yieldsIf_wpOpIn hnd hi hy hS ⟨hr w, weak _ _ _ _ h⟩
    · have hstep := h.2 j (ready_mono hj hji)
      obtain ⟨hun, oj, hoj, hall⟩ := mem_ready.1 hj
      have hno : ∀ e ∈ oj.after, Region.binds md e = true → e.on ≠ i := fun e he hb heq => by
        have h1 := hall e he hb
        have h0 := (mem_ready.1 hrd).1
        rw [heq] at h1
        rcases Nat.lt_or_ge i listed.size with h' | h'
        · simp [h'] at h0 h1; rw [h0] at h1; cases h1
        · simp [Array.getElem?_eq_none h'] at h1
      obtain ⟨hap, hpres⟩ := hfree j oj hoj hji hun hno
      have hput := wpOpIn_putIf hnd hoj hap (fun cs b => hsel i oi cs b hi) (fun cs b => hsel j oj cs b hoj) hQ hy hstep
      refine wpOpIn_mono (fun a' w' hk => ⟨hp _ _ _ hk.2.1, ?_⟩) hput
      refine ih (listed.setIfInBounds j true) a' w' (fun k ok hk1 hk2 hk3 hk4 => ?_) (ready_mono hrd (Ne.symm hji)) hk.1 (hpres _ _ hk.2.1 hS) ?_
      · refine hfree k ok hk1 hk2 ?_ hk4
        by_cases hjk : j = k
        · subst hjk; exact hun
        · rw [getD_set_ne true hjk] at hk3; exact hk3
      · rw [Array.setIfInBounds_comm _ _ hji]
        exact hk.2.2
end
def moverKind (tab : Tab) (o : Op) : Bool :=
  match o with
  | .move _ | .assign _ | .pick .. | .build .. | .load .. | .nilCheck _ | .binOp .. | .unOp .. | .makeFunc .. | .makeInterface .. | .fieldAddr .. | .field .. | .indexAddr .. | .index .. | .extract .. | .slice .. | .lookup .. | .typeAssert .. => true
  | .convert _ d _ => (match tab.get d with | some ⟨_, _, _, .slice _, _⟩ => false | some _ => true | none => false)
  | .call c => (match c.callee with
    | .builtin .len => (match c.argTypes.toList with | [t] => (match tab.get t with | some ⟨_, _, _, .map _ _, _⟩ => false | _ => true) | _ => true)
    | .builtin .min | .builtin .max | .builtin .cap => true
    | _ => false)
  | _ => false
def findIdx (p : Nat → Bool) : List Nat → Option Nat
  | [] => none
  | i :: l => if p i then some i else findIdx p l
def rdy (ops : List Oper) (listed : List Nat) : List Nat :=
  (List.range ops.length).filter fun i => !listed.contains i && (match nth ops i with | some o => o.after.toList.all fun e => !Region.binds .any e || listed.contains e.on | none => false)
def isMover (tab : Tab) (ops : List Oper) (i : Nat) : Bool := match nth ops i with | some o => moverKind tab o.op | none => false
def planOk (tab : Tab) (ops : Array Oper) : Nat → List Nat → Array Bool → Bool
  | 0, _, la => (Region.ready .any ops la).isEmpty
  | n + 1, listed, la =>
    let rs := rdy ops.toList listed
    (Region.ready .any ops la == rs) &&
    match findIdx (isMover tab ops.toList) rs with
    | some i => Region.free .any ops la i && planOk tab ops n (i :: listed) (la.setIfInBounds i true)
    | none => rs.all fun i => planOk tab ops n (i :: listed) (la.setIfInBounds i true)
abbrev Prot := List (Nat × Nat × Blk)
def dirEdge (o : Oper) (i : Nat) : Bool := o.after.toList.any fun e => Region.binds .any e && e.on == i
def protOk (o : Oper) (H : HH) : Prot → Prop → Prop
  | [], A => A
  | (i, id, b) :: r, A => match dirEdge o i with
    | true => protOk o H r A
    | false => nth H id = some b ∧ protOk o H r A
def protQ (q : Bool) (o : Oper) (H : HH) (prot : Prot) (A : Prop) : Prop :=
  match q with
  | true => A
  | false => protOk o H prot A
def idOf : AV → Option Nat
  | .ptr id _ _ => some id
  | .ep id _ _ _ _ => some id
  | .sl id _ _ _ _ _ => some id
  | .vp id _ _ _ _ _ => some id
  | .kp id _ _ _ => some id
  | .mp id _ => some id
  | .os id _ _ _ _ _ _ _ => some id
  | _ => none
def protOf (T : TT) (H : HH) (i : Nat) (o : Op) (prot : Prot) : Prot :=
  match o with
  | .load _ p | .convert _ _ p | .lookup _ p _ _ =>
    match (evalO T p).bind idOf with
    | some id => (match nth H id with | some b => (i, id, b) :: prot | none => prot)
    | none => prot
  | _ => prot
def allK : List Nat → (Nat → Prop) → Prop
  | [], _ => True
  | [i], f => f i
  | i :: l, f => f i ∧ allK l f
theorem allK_spec : ∀ {l : List Nat} {f : Nat → Prop}, allK l f → ∀ i ∈ l, f i
  | [], _, _, i, h => by simp at h
  | [j], f, h, i, hi => by simp at hi; subst hi; exact h
  | j :: k :: l, f, h, i, hi => by
    obtain ⟨h1, h2⟩ := h
    rcases List.mem_cons.1 hi with rfl | hi
    · exact h1
    · exact allK_spec h2 i hi
def stepOp (tab : Tab) (tbl : Tbl) (rs : RS) (ops : List Oper) (i : Nat) (mover : Bool) (T : TT) (H : HH) (prot : Prot) (go : TT → HH → Prot → Prop) (KP : AV → HH → Prop) : Prop :=
  match nth ops i with
  | none => False
  | some o =>
    match o.guard with
    | none => runOp tab tbl rs i mover o T H prot go KP
    | some (j, want) =>
      match (nth ops j).bind (·.dst) with
      | some d =>
        match T.get d with
        | some (.v (.bool c)) =>
          br c
            (match want with
             | true => runOp tab tbl rs i mover o ((d, .v (.bool true)) :: T) H prot go KP
             | false => go (putT ((d, .v (.bool true)) :: T) o.dst (.v undef)) H prot)
            (match want with
             | true => go (putT ((d, .v (.bool false)) :: T) o.dst (.v undef)) H prot
             | false => runOp tab tbl rs i mover o ((d, .v (.bool false)) :: T) H prot go KP)
        | some (.v (.tuple _)) => go (putT T o.dst (.v undef)) H prot
        | _ => False
      | none => False
where
  runOp (tab : Tab) (tbl : Tbl) (rs : RS) (i : Nat) (mover : Bool) (o : Oper) (T : TT) (H : HH) (prot : Prot) (go : TT → HH → Prot → Prop) (KP : AV → HH → Prop) : Prop :=
    match mover with
    | true => opK tab T H o.op fun v H' => go (putT T o.dst v) H' (protOf T H i o.op prot)
    | false => opX tab tbl rs T H o.op (fun v H' => protQ (quiet tbl T o.op) o H' prot (go (putT T o.dst v) H' prot)) KP
def execPlan (tab : Tab) (tbl : Tbl) (rs : RS) (ops : List Oper) (KP : AV → HH → Prop) : Nat → List Nat → TT → HH → Prot → (TT → HH → Prop) → Prop
  | 0, _, T, H, _, K => K T H
  | n + 1, listed, T, H, prot, K =>
    match rdy ops listed with
    | [] => K T H
    | r :: rl =>
      match findIdx (isMover tab ops) (r :: rl) with
      | some i => stepOp tab tbl rs ops i true T H prot (fun T' H' prot' => execPlan tab tbl rs ops KP n (i :: listed) T' H' prot' K) KP
      | none => allK (r :: rl) fun i => stepOp tab tbl rs ops i false T H prot (fun T' H' prot' => execPlan tab tbl rs ops KP n (i :: listed) T' H' prot' K) KP
theorem findIdx_spec {p : Nat → Bool} : ∀ {l : List Nat} {i : Nat}, findIdx p l = some i → i ∈ l ∧ p i = true
  | [], _, h => by simp [findIdx] at h
  | j :: l, i, h => by
    simp only [findIdx] at h
    split at h
    · rename_i hp; cases h; exact ⟨by simp, hp⟩
    · obtain ⟨h1, h2⟩ := findIdx_spec h; exact ⟨by simp [h1], h2⟩
def prsOf (ops : Array Oper) (prot : Prot) (j : Nat) (w w' : World) : Prop :=
  ∀ i id b, (i, id, b) ∈ prot → (match ops[j]? with | some o => dirEdge o i = false | none => True) → b.c.holds w b.num → b.c.holds w' b.num
theorem protOk_spec {o : Oper} {H : HH} {A : Prop} : ∀ {prot : Prot}, protOk o H prot A → A ∧ ∀ i id b, (i, id, b) ∈ prot → dirEdge o i = false → nth H id = some b
  | [], h => ⟨h, fun _ _ _ hm => by simp at hm⟩
  | (k, kd, c) :: r, h => by
    simp only [protOk] at h
    cases hd : dirEdge o k with
    | true =>
      rw [hd] at h
      obtain ⟨h1, h2⟩ := protOk_spec h
      refine ⟨h1, fun i id b hm hf => ?_⟩
      rcases List.mem_cons.1 hm with e | hm
      · cases e; rw [hd] at hf; cases hf
      · exact h2 i id b hm hf
    | false =>
      rw [hd] at h
      obtain ⟨h0, h⟩ := h
      obtain ⟨h1, h2⟩ := protOk_spec h
      refine ⟨h1, fun i id b hm hf => ?_⟩
      rcases List.mem_cons.1 hm with e | hm
      · cases e; exact h0
      · exact h2 i id b hm hf
theorem loadK_yields {P : Program} {tab : Tab} (ht : TabOk P tab) {H : HH} {t : TypeId} {p : AV} {K : AV → Prop} (h : loadK tab H t p K) :
    ∃ v, K v ∧ ∃ id b, nth H id = some b ∧ idOf p = some id ∧ ∀ w, b.c.holds w b.num → (Instr.loadAt t p.den).run P w = .ok v.den w := by
  unfold loadK at h
  split at h
  · rename_i id n o
    split at h
    · rename_i m l ty own hb
      obtain ⟨rfl, h⟩ := h
      split at h
      · rename_i v hv
        refine ⟨v, h, id, _, hb, rfl, fun w hc => ?_⟩
        simp only [Cont.holds] at hc
        have := run_loadVar_part ht (w := w) (n := n) (base := 0) (fun j x hj => by rw [cell_of hc]; simp [denL_get hj]) hv
        simp only [Nat.zero_add] at this
        simp [Instr.loadAt, AV.den, Instr.sureAddr, this]
      · exact h.elim
    · rename_i m B N bs is ty own hb
      obtain ⟨rfl, h⟩ := h
      obtain ⟨v, h1, h2⟩ := mixK_yields (ty := ty) ht h
      exact ⟨v, h1, id, _, hb, rfl, fun w hc => h2 w hc⟩
    · exact h.elim
  · rename_i id n i sz j
    split at h
    · rename_i m N cs ty own hb
      have g_ := ck_spec h
      clear h
      obtain ⟨hs, rfl, hi, h⟩ := g_
      obtain rfl := Nat.eq_of_beq_eq_true hs
      split at h
      · rename_i v hv
        refine ⟨v, h, id, _, hb, rfl, fun w hc => ?_⟩
        obtain ⟨c, hc, hcs, hcc⟩ := hc
        have := run_loadVar_part ht (w := w) (n := n) (base := i * cs.length) (fun k x hk => by rw [cell_of hc]; exact hcc i hi k x hk) hv
        simp [Instr.loadAt, AV.den, Instr.sureAddr, this]
      · exact h.elim
    · rename_i m l ty own hb
      obtain ⟨rfl, h⟩ := h
      split at h
      · rename_i v hv
        refine ⟨v, h, id, _, hb, rfl, fun w hc => ?_⟩
        simp only [Cont.holds] at hc
        have := run_loadVar_part ht (w := w) (n := n) (base := 0) (fun j x hj => by rw [cell_of hc]; simp [denL_get hj]) hv
        simp only [Nat.zero_add] at this
        simp [Instr.loadAt, AV.den, Instr.sureAddr, this]
      · exact h.elim
    · exact h.elim
  · rename_i id n o i sz j
    split at h
    · rename_i m o' N cs own hb
      have g_ := ck_spec h
      clear h
      obtain ⟨hs, rfl, rfl, hi, h⟩ := g_
      obtain rfl := Nat.eq_of_beq_eq_true hs
      split at h
      · rename_i v hv
        refine ⟨v, h, id, _, hb, rfl, fun w hc => ?_⟩
        obtain ⟨c, ty, fz, hc, hcc⟩ := hc
        have := run_loadVar_part ht (w := w) (n := n) (base := o + i * cs.length) (fun k x hk => by
          have := hcc i hi k x hk
          simpa [World.cell?, hc] using this) hv
        simp [Instr.loadAt, AV.den, Instr.sureAddr, this]
      · exact h.elim
    · rename_i m o' N cs S wr own hb
      have g_ := ck_spec h
      clear h
      obtain ⟨hs, rfl, rfl, hi, h⟩ := g_
      obtain rfl := Nat.eq_of_beq_eq_true hs
      split at h
      · rename_i v hv
        refine ⟨v, h, id, _, hb, rfl, fun w hc => ?_⟩
        obtain ⟨_, c, ty, fz, hc, hcc⟩ := hc.2.1 (by omega)
        have := run_loadVar_part ht (w := w) (n := n) (base := o + i * cs.length) (fun k x hk => by
          have := hcc i hi k x hk
          simpa [World.cell?, hc] using this) hv
        simp [Instr.loadAt, AV.den, Instr.sureAddr, this]
      · exact h.elim
    · rename_i m α d o' l S wr foc own hb
      have g_ := ck_spec h
      clear h
      obtain ⟨hs, rfl, rfl, hi, h⟩ := g_
      obtain rfl := Nat.eq_of_beq_eq_true hs
      have hk : ∃ v, K v ∧ ∃ l0 : List AV, partAV tab t l0 j = some v ∧ (foc = none ∧ l0 = d.enc (dAt l d.z i) ∨ foc = some (i, l0)) := by
        cases foc with
        | none =>
          simp only [focK] at h
          split at h
          · rename_i v hv
            exact ⟨v, h, _, hv, .inl ⟨rfl, rfl⟩⟩
          · exact h.elim
        | some p =>
          obtain ⟨f, fv⟩ := p
          simp only [focK] at h
          obtain ⟨rfl, h⟩ := h
          split at h
          · rename_i v hv
            exact ⟨v, h, _, hv, .inr rfl⟩
          · exact h.elim
      obtain ⟨v, hv, l0, hp, hl⟩ := hk
      refine ⟨v, hv, id, _, hb, rfl, fun w hw => ?_⟩
      have hd : denL l0 = denL (d.enc (dAt l d.z i)) := by
        rcases hl with ⟨_, rfl⟩ | rfl
        · rfl
        · exact (hw.2.1 i l0 rfl).2
      obtain ⟨_, c, ty, fz, hc, hcc⟩ := hw.2.2.2.1 (by omega)
      have := run_loadVar_part ht (w := w) (n := n) (base := o + i * d.sz) (fun k x hk => by
        obtain ⟨y, hy, hyx⟩ := denL_get' (l := l0) (m := d.enc (dAt l d.z i)) hd hk
        have := hcc i hi k y hy
        rw [hyx]
        simpa [World.cell?, hc] using this) hp
      simp [Instr.loadAt, AV.den, Instr.sureAddr, this]
    · rename_i m oo L g F S full own hb
      have g_ := ck_spec h
      clear h
      obtain ⟨hs, h⟩ := g_
      simp only [Bool.and_eq_true] at hs
      obtain rfl := Nat.eq_of_beq_eq_true hs.1
      obtain rfl := Nat.eq_of_beq_eq_true hs.2
      obtain ⟨v, hv, hr⟩ := textsK_yields ht (S := S) h
      exact ⟨v, hv, id, _, hb, rfl, hr⟩
    · exact h.elim
  · rename_i id n o c
    obtain ⟨⟨b, hb, hr⟩, h⟩ := h
    split at h
    · rename_i v hv
      refine ⟨v, h, id, _, hb, rfl, fun w hw => ?_⟩
      obtain ⟨ty, fz, hc⟩ := hr w hw
      have := run_loadVar_part ht (w := w) (n := n) (base := 0) (fun j x hj => by
        have := denL_get hj
        simpa [World.cell?, hc] using this) hv
      simp only [Nat.zero_add] at this
      simp [Instr.loadAt, AV.den, Instr.sureAddr, this]
    · exact h.elim
  · exact h.elim
theorem findK_fun {d : TD} {k : AV} : ∀ {es : List (AV × AV × Nat)} {i : Nat} {K : Option (Nat × AV) → Prop}, findK d k es i K → ∃ r, K r ∧ ∀ K' : Option (Nat × AV) → Prop, K' r → findK d k es i K'
  | [], i, K, h => ⟨none, h, fun _ h => h⟩
  | e :: es, i, K, h => by
    simp only [findK] at h
    split at h
    · rename_i b hb
      cases b
      · rw [br_false] at h
        obtain ⟨r, h1, h2⟩ := findK_fun h
        exact ⟨r, h1, fun K' hk => by simp only [findK, hb, br_false]; exact h2 K' hk⟩
      · rw [br_true] at h
        exact ⟨_, h, fun K' hk => by simp only [findK, hb, br_true]; exact hk⟩
    · exact h.elim
theorem outK_fun {z : AV} {ok : Bool} {r : Option (Nat × AV)} {K : AV → Prop} (h : lookupK.outK z ok r K) : ∃ v, K v ∧ ∀ K' : AV → Prop, K' v → lookupK.outK z ok r K' := by
  cases r <;> cases ok <;> exact ⟨_, h, fun _ h => h⟩
theorem lookupK_yields {P : Program} {tab : Tab} (ht : TabOk P tab) {H : HH} {t : TypeId} {x k : AV} {ok : Bool} {K : AV → Prop} (h : lookupK tab H t x k ok K) :
    ∃ v, K v ∧ ((∀ w, (Instr.lookup t x.den k.den ok).run P w = .ok v.den w) ∨ ∃ id b, nth H id = some b ∧ idOf x = some id ∧ ∀ w, b.c.holds w b.num → (Instr.lookup t x.den k.den ok).run P w = .ok v.den w) := by
  unfold lookupK at h
  split at h
  · rename_i key e _ htt
    split at h
    · rename_i ki ei hki hei
      have g := ck_spec h; clear h; obtain ⟨hck, h⟩ := g
      split at h
      · rename_i id n
        split at h
        · rename_i m es cl own hb
          obtain ⟨rfl, h⟩ := h
          obtain ⟨r, h1, h2⟩ := findK_fun h
          obtain ⟨v, hv, h3⟩ := outK_fun h1
          refine ⟨v, hv, .inr ⟨id, _, hb, rfl, fun w hw => ?_⟩⟩
          obtain ⟨v', rfl, hr⟩ := lookupK_sound (P := P) (w := w) (H := [⟨n, .mapc es cl, own⟩]) (t := t) (x := .mp 0 n) (k := k) (ok := ok) (K := fun u => u = v) ht ⟨fun i b hi => by
            cases i with
            | zero => simp at hi; subst hi; exact hw
            | succ i => simp at hi, fun i j b c hi hj hij => by
            cases i with
            | zero => (cases j with
              | zero => exact absurd rfl hij
              | succ j => simp at hj)
            | succ i => simp at hi⟩ (by
            unfold lookupK
            simp only [htt, hki, hei, hck, ck]
            exact ⟨rfl, h2 _ (h3 _ rfl)⟩)
          exact hr
        · exact h.elim
      · obtain ⟨v, hv, h3⟩ := outK_fun h
        refine ⟨v, hv, .inl fun w => ?_⟩
        obtain ⟨v', rfl, hr⟩ := lookupK_sound (P := P) (w := w) (H := []) (t := t) (x := .v (.map none)) (k := k) (ok := ok) (K := fun u => u = v) ht ⟨fun i b hi => by simp at hi, fun i j b c hi => by simp at hi⟩ (by
            unfold lookupK
            simp only [htt, hki, hei, hck, ck]
            exact h3 _ rfl)
        exact hr
      · exact h.elim
    · exact h.elim
  · exact h.elim
theorem lookupQ_yields {P : Program} {tab : Tab} (ht : TabOk P tab) {H : HH} {t : TypeId} {x k : AV} {ok : Bool} {K : AV → Prop} (h : lookupQ tab H t x k ok K) :
    ∃ v, K v ∧ ((∀ w, (Instr.lookup t x.den k.den ok).run P w = .ok v.den w) ∨ ∃ id b, nth H id = some b ∧ idOf x = some id ∧ ∀ w, b.c.holds w b.num → (Instr.lookup t x.den k.den ok).run P w = .ok v.den w) := by
  unfold lookupQ at h
  split at h
  · rename_i id n
    split at h
    · rename_i m es clock own hb
      split at h
      · exact lookupK_yields ht h
      · obtain ⟨rfl, v, hv, hr⟩ := lookupC_data (P := P) (clock := clock) ht h
        exact ⟨v, hv, .inr ⟨id, _, hb, rfl, fun w hw => hr w hw⟩⟩
    · exact lookupK_yields ht h
  · exact lookupK_yields ht h
theorem lookupP_yields {P : Program} {tab : Tab} (ht : TabOk P tab) {H : HH} {t : TypeId} {x k : AV} {ok : Bool} {K : AV → Prop} (h : lookupP tab H t x k ok K) :
    ∃ v, K v ∧ ((∀ w, (Instr.lookup t x.den k.den ok).run P w = .ok v.den w) ∨ ∃ id b, nth H id = some b ∧ idOf x = some id ∧ ∀ w, b.c.holds w b.num → (Instr.lookup t x.den k.den ok).run P w = .ok v.den w) := by
  unfold lookupP at h
  split at h
  · rename_i id n
    split at h
    · rename_i m α ky vl mk es clock own hb
      split at h
      · rename_i key e _ htt
        split at h
        · rename_i ki ei hki hei
          have g_ := ck_spec h
          clear h
          obtain ⟨hko, rfl, h⟩ := g_
          obtain ⟨v, hv, hr⟩ := lookupP_data (P := P) (n := n) (clock := clock) ht htt hki hei hko h
          exact ⟨v, hv, .inr ⟨id, _, hb, rfl, fun w hw => hr w hw.1⟩⟩
        · exact h.elim
      · exact h.elim
    · exact lookupQ_yields ht h
  · exact lookupQ_yields ht h
theorem mover_yields {P : Program} {tab : Tab} (ht : TabOk P tab) {T : TT} {H : HH} {a : Act} {o : Oper} {K : AV → HH → Prop} (hm : Matches T a.tmps) (hk : moverKind tab o.op = true) (h : opK tab T H o.op K) (i : Nat) (prot : Prot) :
    ∃ v, K v H ∧ ∃ S : World → Prop, (∀ w, HoldsH H w → S w) ∧ (∀ w, S w → (execOp a.eval o).run P w = .ok (.value v.den) w) ∧
      ((∀ w, S w) ∨ ∃ id b, protOf T H i o.op prot = (i, id, b) :: prot ∧ S = fun w => b.c.holds w b.num) := by
  have pure_case : ∀ {K' : AV → Prop}, pureK tab T o.op K' → (∀ v, K' v → K v H) → ∃ v, K v H ∧ ∃ S : World → Prop, (∀ w, HoldsH H w → S w) ∧ (∀ w, S w → (execOp a.eval o).run P w = .ok (.value v.den) w) ∧
      ((∀ w, S w) ∨ ∃ id b, protOf T H i o.op prot = (i, id, b) :: prot ∧ S = fun w => b.c.holds w b.num) := by
    intro K' h hk
    obtain ⟨v, hv, hr⟩ := pureK_sound ht hm h
    exact ⟨v, hk v hv, fun _ => True, fun _ _ => trivial, fun w _ => hr w, .inl fun _ => trivial⟩
  unfold opK at h
  split at h
  · rename_i c x y ho
    obtain ⟨cv, hc, h⟩ := evalK_sound hm h
    split at h
    · rename_i t
      cases t
      · obtain ⟨v, hv, h⟩ := evalK_sound hm h
        exact ⟨v, h, fun _ => True, fun _ _ => trivial, fun w _ => by simp [execOp, ho, hc, AV.den, asBool, hv], .inl fun _ => trivial⟩
      · obtain ⟨v, hv, h⟩ := evalK_sound hm h
        exact ⟨v, h, fun _ => True, fun _ _ => trivial, fun w _ => by simp [execOp, ho, hc, AV.den, asBool, hv], .inl fun _ => trivial⟩
    · exact h.elim
  · rename_i e ho; rw [ho] at hk; simp [moverKind] at hk
  · rename_i e x ho; rw [ho] at hk; simp [moverKind] at hk
  · rename_i t p ho
    unfold evalK at h
    split at h
    · rename_i pv hpv
      have hp := evalO_sound hm hpv
      obtain ⟨v, hv, id, b, hb, hid, hr⟩ := loadK_yields ht h
      refine ⟨v, hv, fun w => b.c.holds w b.num, fun w hw => hw.all id b (by rw [← nth_eq]; exact hb), fun w hw => by simp [execOp, ho, hp, hr w hw], .inr ⟨id, b, ?_, rfl⟩⟩
      simp only [protOf, ho, hpv, Option.bind_some, hid, hb]
    · exact h.elim
  · rename_i t p x ho; rw [ho] at hk; simp [moverKind] at hk
  · rename_i s d x ho
    unfold evalK at h
    split at h
    · rename_i p hpv
      have hp := evalO_sound hm hpv
      split at h
      · rename_i e eq hd
        rw [ho] at hk
        simp [moverKind, hd] at hk
      · rename_i eq hd
        have hdd := (ht.get hd).desc
        simp only [DescOk] at hdd
        split at h
        · rename_i id n r sz len cap
          obtain ⟨t, b, hb', hk', hr⟩ := readK_sound (cap := cap) ht hdd h
          refine ⟨.v (.string t), hk', fun w => b.c.holds w b.num, fun w hw => hw.all id b (by rw [← nth_eq]; exact hb'), fun w hw => by
            have := hr w hw
            simp only [execOp, ho, hp, Sem.run_bind, this, Result.andThen_ok, Sem.run_pure]; rfl, .inr ⟨id, b, ?_, rfl⟩⟩
          simp only [protOf, ho, hpv, Option.bind_some, idOf, hb']
        · rename_i id a0 n o' r sz len cap
          obtain ⟨t, b, hb', hk', hr⟩ := readO_sound (cap := cap) (a0 := a0) ht hdd h
          refine ⟨.v (.string t), hk', fun w => b.c.holds w b.num, fun w hw => hw.all id b (by rw [← nth_eq]; exact hb'), fun w hw => by
            have := hr w hw
            simp only [execOp, ho, hp, Sem.run_bind, this, Result.andThen_ok, Sem.run_pure]; rfl, .inr ⟨id, b, ?_, rfl⟩⟩
          simp only [protOf, ho, hpv, Option.bind_some, idOf, hb']
        · rw [← ho] at h
          exact pure_case h fun v hv => hv
      · rename_i di _ _ hdi
        split at h
        · rename_i si hsi
          split at h
          · obtain ⟨id, b, o', n', hb, rfl, hk', hr⟩ := uconvK_sound ht hsi hdi h
            refine ⟨.ptr id n' o', hk', fun w => b.c.holds w b.num, fun w hw => hw.all id b (by rw [← nth_eq]; exact hb), fun w hw => by simp [execOp, ho, hp, hr w hw], .inr ⟨id, b, ?_, rfl⟩⟩
            simp only [protOf, ho, hpv, Option.bind_some, idOf, hb]
          · rw [← ho] at h
            exact pure_case h fun v hv => hv
        · exact h.elim
      · exact h.elim
    · exact h.elim
  · rename_i t r ho; rw [ho] at hk; simp [moverKind] at hk
  · rename_i t x k ok ho
    unfold evalK at h
    split at h
    · rename_i xv hxv
      have hx := evalO_sound hm hxv
      obtain ⟨kv, hkv, h⟩ := evalK_sound hm h
      obtain ⟨v, hv, hr⟩ := lookupP_yields (P := P) ht h
      rcases hr with hr | ⟨id, b, hb, hid, hr⟩
      · exact ⟨v, hv, fun _ => True, fun _ _ => trivial, fun w _ => by simp [execOp, ho, hx, hkv, hr w], .inl fun _ => trivial⟩
      · refine ⟨v, hv, fun w => b.c.holds w b.num, fun w hw => hw.all id b (by rw [← nth_eq]; exact hb), fun w hw => by simp [execOp, ho, hx, hkv, hr w hw], .inr ⟨id, b, ?_, rfl⟩⟩
        simp only [protOf, ho, hxv, Option.bind_some, hid, hb]
    · exact h.elim
  · rename_i t m k x ho; rw [ho] at hk; simp [moverKind] at hk
  · rename_i t x ho; rw [ho] at hk; simp [moverKind] at hk
  · rename_i it s ho; rw [ho] at hk; simp [moverKind] at hk
  · rename_i it ho; rw [ho] at hk; simp [moverKind] at hk
  · rename_i t l c ho; rw [ho] at hk; simp [moverKind] at hk
  · rename_i t len parts ho; rw [ho] at hk; simp [moverKind] at hk
  · rename_i c ho
    split at h
    · rename_i hf; rw [ho] at hk; simp [moverKind, hf] at hk
    · rename_i hf; rw [ho] at hk; simp [moverKind, hf] at hk
    · rename_i hf; rw [ho] at hk; simp [moverKind, hf] at hk
    · rename_i hf; rw [ho] at hk; simp [moverKind, hf] at hk
    · rename_i hf; rw [ho] at hk; simp [moverKind, hf] at hk
    · rename_i hcb
      obtain ⟨vs, hvs, h⟩ := evalL_sound hm h
      have e : c.args.map a.eval = (denL vs).toArray := by apply Array.ext'; rw [Array.toList_map, hvs]
      split at h
      · rename_i t id n hat
        split at h
        · rename_i htt hb
          rw [ho] at hk
          simp [moverKind, hcb, hat, htt] at hk
        · rename_i htt hb
          rw [ho] at hk
          simp [moverKind, hcb, hat, htt] at hk
        · exact h.elim
      · obtain ⟨v, hv, hr⟩ := pureB_sound (P := P) (b := .len) ht h o.type
        exact ⟨v, hv, fun _ => True, fun _ _ => trivial, fun w _ => by simp only [execOp, ho, resolve, hcb, Sem.run_bind, Sem.run_pure, Result.andThen_ok, invoke, e, hr w _], .inl fun _ => trivial⟩
    · rw [← ho] at h
      exact pure_case h fun v hv => hv
  · exact pure_case h fun v hv => hv
def Sub (Tp T : TT) : Prop := ∀ t v, Tp.get t = some v → T.get t = some v
def NoDst (ops : List Oper) (Tp : TT) : Prop := ∀ o ∈ ops, ∀ d, o.dst = some d → Tp.get d = none
theorem Sub.put {ops : List Oper} {Tp T : TT} (h : Sub Tp T) (hn : NoDst ops Tp) {o : Oper} (ho : o ∈ ops) (v : AV) : Sub Tp (putT T o.dst v) := by
  intro t x hx
  have := h t x hx
  cases hd : o.dst with
  | none => exact this
  | some d =>
    simp only [putT, TT.get]
    split
    · rename_i e; subst e; rw [hn o ho d hd] at hx; cases hx
    · exact this
theorem Sub.consB {ops : List Oper} {Tp T : TT} (h : Sub Tp T) (hn : NoDst ops Tp) {o : Oper} (ho : o ∈ ops) {d : Nat} (hd : o.dst = some d) (v : AV) : Sub Tp ((d, v) :: T) := by
  have := Sub.put h hn ho v
  rw [hd] at this
  exact this
theorem Sub.matches {Tp T : TT} (h : Sub Tp T) {tmps : Array Value} (hm : Matches T tmps) : Matches Tp tmps := fun t v hv => hm t v (h t v hv)
def dsts : List Oper → List Nat
  | [] => []
  | o :: l => match o.dst with | some d => d :: dsts l | none => dsts l
theorem mem_dsts {o : Oper} {d : Nat} (hd : o.dst = some d) : ∀ {l : List Oper}, o ∈ l → d ∈ dsts l
  | [], h => by simp at h
  | x :: l, h => by
    simp only [dsts]
    rcases List.mem_cons.1 h with rfl | h
    · rw [hd]; simp
    · have := mem_dsts hd h
      split <;> simp [this]
def dropT (ds : List Nat) : TT → TT
  | [] => []
  | (t, v) :: T => match ds.contains t with | true => dropT ds T | false => (t, v) :: dropT ds T
theorem dropT_get {ds : List Nat} {t : Nat} {v : AV} : ∀ {T : TT}, (dropT ds T).get t = some v → T.get t = some v ∧ t ∉ ds
  | [], h => by simp [dropT, TT.get] at h
  | (k, x) :: T, h => by
    simp only [dropT] at h
    split at h
    · rename_i hc
      obtain ⟨h1, h2⟩ := dropT_get h
      refine ⟨?_, h2⟩
      simp only [TT.get]
      split
      · rename_i e; subst e; exact absurd (by simpa using hc) h2
      · exact h1
    · rename_i hc
      simp only [TT.get] at h ⊢
      split at h
      · rename_i e; subst e; rw [if_pos rfl]; exact ⟨h, by simpa using hc⟩
      · rename_i e
        rw [if_neg e]
        exact dropT_get h
theorem dropT_sub (ds : List Nat) (T : TT) : Sub (dropT ds T) T := fun _ _ h => (dropT_get h).1
theorem dropT_no (ops : List Oper) (T : TT) : NoDst ops (dropT (dsts ops) T) := by
  intro o ho d hd
  cases h : (dropT (dsts ops) T).get d with
  | none => rfl
  | some v => exact absurd (mem_dsts hd ho) (dropT_get h).2
theorem Matches.unput {Tp : TT} {a : Act} {d : Option Nat} {v : Value} (hn : ∀ x, d = some x → Tp.get x = none) (h : Matches Tp (a.put d v).tmps) : Matches Tp a.tmps := by
  cases d with
  | none => exact h
  | some d =>
    intro t av ht
    rw [← h t av ht]
    have hne : d ≠ t := by intro e; subst e; rw [hn d rfl] at ht; cases ht
    simp [Act.put, Array.getD_eq_getD_getElem?, Array.getElem?_setIfInBounds_ne hne]
theorem Gam.unput {nt : Nat} {ds : DS} {w0 : World} {fp : HH} {T : TT} {H : HH} {a : Act} {w : World} {d : Option Nat} {v : Value} (hn : ∀ x, d = some x → T.get x = none) (g : Gam nt ds w0 fp T H (a.put d v) w) : Gam nt ds w0 fp T H a w := by
  refine ⟨g.tm.unput hn, ?_, ?_, g.hh⟩
  · have := g.sz; cases d <;> simpa [Act.put] using this
  · have := g.df; cases d <;> exact this
section
variable {P : Program} {tab : Tab} {tbl : Tbl} {rs : RS} {ro : Option Nat} {nt : Nat} {ds : DS} {w0 : World} {fp : HH} {Q : Exit → Act → World → Prop} {KP : AV → HH → Prop} {Tp : TT}
theorem execPlan_sound (ht : TabOk P tab) (hb : TblOk P tbl) (hrs : RsOk P rs) (ops : Array Oper) (hok : ops.toList.all (dstOk nt) = true) (hdf : ops.toList.all notDefer = true) (hns : Region.noSelect ops = true) (hno : NoDst ops.toList Tp) (hQ : ∀ (c : List PanicEntry) (o : Oper) (v : Value) (a : Act) (w : World), o ∈ ops.toList → Q (.panic c) (a.put o.dst v) w → Q (.panic c) a w)
    (hqp : ∀ v H' a' w', KP v H' → Gam nt ds w0 fp Tp H' a' w' → Q (.panic [{ v := v.den, recovered := false }]) a' w') :
    ∀ (n : Nat) (lst : List Nat) (listed : Array Bool) (T : TT) (H : HH) (prot : Prot) (K : TT → HH → Prop) (a : Act) (w : World), planOk tab ops n lst listed = true → Sub Tp T → Gam nt ds w0 fp T H a w → execPlan tab tbl rs ops.toList KP n lst T H prot K →
      (∀ T' H' a' w', K T' H' → Gam nt ds w0 fp T' H' a' w' → Q .normal a' w') → wpAnyX ro P .any ops Q (prsOf ops prot) n listed a w := by
  have hnd : ∀ (j : Nat) (o : Oper), ops[j]? = some o → ∀ c, o.op ≠ .defer c := fun j o ho => notDefer_spec (List.all_eq_true.1 hdf o (List.mem_of_getElem? (i := j) (by simpa using ho)))
  intro n
  induction n with
  | zero =>
    intro lst listed T H prot K a w hpo hsb g h hq
    simp only [planOk, List.isEmpty_iff] at hpo
    exact ⟨hpo, hq _ _ _ _ h g⟩
  | succ n ih =>
    intro lst listed T H prot K a w hpo hsb g h hq
    simp only [planOk, Bool.and_eq_true, beq_iff_eq] at hpo
    obtain ⟨hrd, hpo⟩ := hpo
    have hstep : ∀ (i : Nat) (m : Bool), i ∈ Region.ready .any ops listed → (m = true → isMover tab ops.toList i = true ∧ Region.free .any ops listed i = true) → planOk tab ops n (i :: lst) (listed.setIfInBounds i true) = true →
        (stepOp tab tbl rs ops.toList i m T H prot (fun T' H' prot' => execPlan tab tbl rs ops.toList KP n (i :: lst) T' H' prot' K) KP) →
        (m = true → wpAnyX ro P .any ops Q (prsOf ops prot) (n + 1) listed a w) ∧
        (m = false → wpOpIn (FW ro) 0 P ops Q i (fun a' w' => prsOf ops prot i w w' ∧ wpAnyX ro P .any ops Q (prsOf ops prot) n (listed.setIfInBounds i true) a' w') a w) := by
      intro i m hir hm hrest h
      unfold stepOp at h
      split at h
      · exact h.elim
      · rename_i o ho
        rw [nth_eq] at ho
        have hi : ops[i]? = some o := by simpa using ho
        have hmem : o ∈ ops.toList := List.mem_of_getElem? ho
        have hdst : ∀ x, o.dst = some x → x < nt := by
          intro x hx
          have := List.all_eq_true.1 hok o hmem
          simp only [dstOk, hx] at this
          exact of_decide_eq_true this
        have hrun : ∀ (T1 : TT), Region.wanted o (yielded ops a.tmps) = true → Sub Tp T1 → Gam nt ds w0 fp T1 H a w → stepOp.runOp tab tbl rs i m o T1 H prot (fun T' H' prot' => execPlan tab tbl rs ops.toList KP n (i :: lst) T' H' prot' K) KP →
            (m = true → wpAnyX ro P .any ops Q (prsOf ops prot) (n + 1) listed a w) ∧
            (m = false → wpOpIn (FW ro) 0 P ops Q i (fun a' w' => prsOf ops prot i w w' ∧ wpAnyX ro P .any ops Q (prsOf ops prot) n (listed.setIfInBounds i true) a' w') a w) := by
          intro T1 hw hs1 g1 h1
          unfold stepOp.runOp at h1
          cases m with
          | true =>
            simp only [] at h1
            refine ⟨fun _ => ?_, fun e => by cases e⟩
            obtain ⟨hmk, hfree⟩ := hm rfl
            have hmk : moverKind tab o.op = true := by
              unfold isMover at hmk
              rw [nth_eq, ho] at hmk
              exact hmk
            obtain ⟨v, hk, S, hS, hrun, hS'⟩ := mover_yields ht g1.tm hmk h1 i prot
            have hx := ih _ _ _ _ _ K (a.put o.dst v.den) w hrest (hs1.put hno hmem v) (g1.put hdst v (Ext.refl' g1.hh.hp)) hk hq
            refine wpAnyX_first (S := S) hnd hi (Region.noSelect_spec hns) (fun c a w => hQ c o v.den a w hmem) ?_ (fun w i' id b _ _ hb => hb) n listed a w ?_ hir (.inl ⟨hw, hrun⟩) (hS w g1.hh.hp) hx
            · intro j w1 w2 hp i' id b hm hd
              refine hp i' id b ?_ hd
              rcases hS' with hS' | ⟨id', b', hpr, _⟩
              · unfold protOf
                split
                · split
                  · split <;> simp [hm]
                  · exact hm
                · split
                  · split <;> simp [hm]
                  · exact hm
                · split
                  · split <;> simp [hm]
                  · exact hm
                · exact hm
              · rw [hpr]; simp [hm]
            · intro j oj hj hji hun hno
              refine ⟨Region.free_spec hi hfree j oj hj hji hun hno, fun w1 w2 hp hs => ?_⟩
              rcases hS' with hS' | ⟨id', b', hpr, hSe⟩
              · exact hS' w2
              · rw [hSe] at hs ⊢
                refine hp i id' b' (by rw [hpr]; simp) ?_ hs
                rw [hj]
                simp only [dirEdge]
                rw [List.any_eq_false]
                intro e he
                have := hno e (by simpa using he)
                simp only [Bool.and_eq_true, beq_iff_eq, not_and]
                exact this
          | false =>
            simp only [] at h1
            refine ⟨fun e => (by cases e), fun _ => ?_⟩
            unfold wpOpIn
            simp only [hi, hw, if_true]
            refine opX_sound ht hb hrs (hnd i o hi) g1.tm g1.hh.hp h1 (fun v H' w' hk' hx hqt => ?_) (fun v H' w' hk' hx => ?_)
            · cases hqq : quiet tbl T1 o.op with
              | true =>
                rw [hqq] at hk' hqt
                exact ⟨fun i' id b hm hd hbb => (hqt rfl).holds hbb, ih _ _ _ _ _ K _ w' hrest (hs1.put hno hmem v) (g1.put hdst v hx) hk' hq⟩
              | false =>
                rw [hqq] at hk'
                obtain ⟨hk2, hprot⟩ := protOk_spec hk'
                refine ⟨fun i' id b hm hd _ => ?_, ih _ _ _ _ _ K _ w' hrest (hs1.put hno hmem v) (g1.put hdst v hx) hk2 hq⟩
                rw [hi] at hd
                exact hx.hp.all id b (by rw [← nth_eq]; exact hprot i' id b hm hd)
            · exact hqp v H' a w' hk' ((g1.tt (hs1.matches g1.tm)).ext hx)
        have hskip : ∀ (T1 : TT), Region.wanted o (yielded ops a.tmps) = false → Sub Tp T1 → Gam nt ds w0 fp T1 H a w → execPlan tab tbl rs ops.toList KP n (i :: lst) (putT T1 o.dst (.v undef)) H prot K →
            (m = true → wpAnyX ro P .any ops Q (prsOf ops prot) (n + 1) listed a w) ∧
            (m = false → wpOpIn (FW ro) 0 P ops Q i (fun a' w' => prsOf ops prot i w w' ∧ wpAnyX ro P .any ops Q (prsOf ops prot) n (listed.setIfInBounds i true) a' w') a w) := by
          intro T1 hw hs1 g1 h1
          have hx := ih _ _ _ _ _ K (a.put o.dst undef) w hrest (hs1.put hno hmem _) (g1.put hdst (.v undef) (Ext.refl' g1.hh.hp)) h1 hq
          refine ⟨fun e => ?_, fun _ => ?_⟩
          · obtain ⟨_, hfree⟩ := hm e
            exact wpAnyX_first (S := fun _ => True) (v := undef) hnd hi (Region.noSelect_spec hns) (fun c a w => hQ c o undef a w hmem) (fun _ _ _ hp => hp) (fun w i' id b _ _ hb => hb) n listed a w
              (fun j oj hj hji hun hno => ⟨Region.free_spec hi hfree j oj hj hji hun hno, fun _ _ _ _ => trivial⟩) hir (.inr ⟨hw, rfl⟩) trivial hx
          · unfold wpOpIn
            simp only [hi, hw, Bool.false_eq_true, if_false]
            exact ⟨fun _ _ => trivial, fun i' id b _ _ hb => hb, hx⟩
        split at h
        · rename_i hg
          have hw : Region.wanted o (yielded ops a.tmps) = true := by simp [Region.wanted, hg]
          exact hrun T hw hsb g h
        · rename_i j want hg
          split at h
          · rename_i d hd
            split at h
            · rename_i c hc
              have hdd : ∃ oj, ops[j]? = some oj ∧ oj.dst = some d := by
                cases hj : nth ops.toList j with
                | none => simp [hj] at hd
                | some oj => simp only [hj, Option.bind_some] at hd; rw [nth_eq] at hj; exact ⟨oj, by simpa using hj, hd⟩
              obtain ⟨oj, hj, hjd⟩ := hdd
              have hjm : oj ∈ ops.toList := List.mem_of_getElem? (i := j) (by simpa using hj)
              have hdnt : d < nt := by
                have := List.all_eq_true.1 hok oj hjm
                simp only [dstOk, hjd] at this
                exact of_decide_eq_true this
              have hval := g.tm d _ hc
              have hy : yielded ops a.tmps j = some c := by
                simp only [yielded, hj, Option.bind_some, hjd]
                rw [getD_some hval (by rw [g.sz]; exact hdnt)]
                rfl
              have hw : Region.wanted o (yielded ops a.tmps) = (c == want) := by
                simp only [Region.wanted, hg, hy]
                cases c <;> cases want <;> rfl
              cases c
              · have g1 : Gam nt ds w0 fp ((d, .v (.bool false)) :: T) H a w := g.tt (g.tm.setB hc rfl)
                simp only [br_false] at h
                cases want <;> simp only [] at h
                · exact hrun _ hw (hsb.consB hno hjm hjd _) g1 h
                · exact hskip _ hw (hsb.consB hno hjm hjd _) g1 h
              · have g1 : Gam nt ds w0 fp ((d, .v (.bool true)) :: T) H a w := g.tt (g.tm.setB hc rfl)
                simp only [br_true] at h
                cases want <;> simp only [] at h
                · exact hskip _ hw (hsb.consB hno hjm hjd _) g1 h
                · exact hrun _ hw (hsb.consB hno hjm hjd _) g1 h
            · rename_i c hc
              have hdd : ∃ oj, ops[j]? = some oj ∧ oj.dst = some d := by
                cases hj : nth ops.toList j with
                | none => simp [hj] at hd
                | some oj => simp only [hj, Option.bind_some] at hd; rw [nth_eq] at hj; exact ⟨oj, by simpa using hj, hd⟩
              obtain ⟨oj, hj, hjd⟩ := hdd
              have hjm : oj ∈ ops.toList := List.mem_of_getElem? (i := j) (by simpa using hj)
              have hdnt : d < nt := by
                have := List.all_eq_true.1 hok oj hjm
                simp only [dstOk, hjd] at this
                exact of_decide_eq_true this
              have hval := g.tm d _ hc
              have hy : yielded ops a.tmps j = none := by
                simp only [yielded, hj, Option.bind_some, hjd]
                rw [getD_some hval (by rw [g.sz]; exact hdnt)]
                rfl
              have hw : Region.wanted o (yielded ops a.tmps) = false := by
                simp only [Region.wanted, hg, hy]
                cases want <;> rfl
              exact hskip _ hw hsb g h
            · exact h.elim
          · exact h.elim
    simp only [execPlan] at h
    split at h
    · rename_i he
      rw [he] at hrd
      exact ⟨fun _ => hq _ _ _ _ h g, fun i hi => by rw [hrd] at hi; simp at hi⟩
    · rename_i r rs he
      rw [he] at hrd hpo
      split at h
      · rename_i i hfi
        rw [hfi] at hpo
        simp only [Bool.and_eq_true] at hpo
        obtain ⟨hin, hmv⟩ := findIdx_spec hfi
        exact (hstep i true (by rw [hrd]; exact hin) (fun _ => ⟨hmv, hpo.1⟩) hpo.2 h).1 rfl
      · rename_i hfi
        rw [hfi] at hpo
        simp only [] at hpo
        refine ⟨fun e => (by rw [hrd] at e; cases e), fun i hi => ?_⟩
        rw [hrd] at hi
        exact (hstep i false (by rw [hrd]; exact hi) (fun e => by cases e) (List.all_eq_true.1 hpo i hi) (allK_spec h i hi)).2 rfl
end
end Go.Eng
