import Derived.Test.YthnkafambegbcaaEngF
import Derived.Deep.LoopGhost
set_option linter.unusedSimpArgs false
set_option linter.unusedVariables false
namespace Go.Eng
open Go Go.Sp
def execOps (tab : Tab) (tbl : Tbl) (rs : RS) (ops : List Oper) (KP : AV → HH → Prop) : List Oper → TT → HH → (TT → HH → Prop) → Prop
  | [], T, H, K => K T H
  | o :: rest, T, H, K =>
    match o.guard with
    | none => opX tab tbl rs T H o.op (fun v H' => execOps tab tbl rs ops KP rest (putT T o.dst v) H' K) KP
    | some (j, want) =>
      match (nth ops j).bind (·.dst) with
      | some d =>
        match T.get d with
        | some (.v (.bool c)) =>
          br c
            (if want then opX tab tbl rs ((d, .v (.bool true)) :: T) H o.op (fun v H' => execOps tab tbl rs ops KP rest (putT ((d, .v (.bool true)) :: T) o.dst v) H' K) KP
             else execOps tab tbl rs ops KP rest (putT ((d, .v (.bool true)) :: T) o.dst (.v undef)) H K)
            (if want then execOps tab tbl rs ops KP rest (putT ((d, .v (.bool false)) :: T) o.dst (.v undef)) H K
             else opX tab tbl rs ((d, .v (.bool false)) :: T) H o.op (fun v H' => execOps tab tbl rs ops KP rest (putT ((d, .v (.bool false)) :: T) o.dst v) H' K) KP)
        | some (.v (.tuple _)) => execOps tab tbl rs ops KP rest (putT T o.dst (.v undef)) H K
        | _ => False
      | none => False
section
variable {P : Program} {tab : Tab} {tbl : Tbl} {rs : RS} {ro : Option Nat} {nt : Nat} {ds : DS} {w0 : World} {fp : HH} {Q : Exit → Act → World → Prop} {KP : AV → HH → Prop} {Tp : TT}
theorem execOps_sound (ht : TabOk P tab) (hb : TblOk P tbl) (hrs : RsOk P rs) (ops : Array Oper) (hok : ops.toList.all (dstOk nt) = true) (hdf : ops.toList.all notDefer = true) (hno : NoDst ops.toList Tp)
    (hqp : ∀ v H' a' w', KP v H' → Gam nt ds w0 fp Tp H' a' w' → Q (.panic [{ v := v.den, recovered := false }]) a' w') : ∀ (n k : Nat) (rest : List Oper), rest.length = n → ops.toList.drop k = rest → ∀ (T : TT) (H : HH) (K : TT → HH → Prop) (a : Act) (w : World),
    Sub Tp T → Gam nt ds w0 fp T H a w → execOps tab tbl rs ops.toList KP rest T H K → (∀ T' H' a' w', K T' H' → Gam nt ds w0 fp T' H' a' w' → Q .normal a' w') → wpOpsIn (FW ro) 0 P ops Q (List.range' k n) a w := by
  intro n
  induction n with
  | zero =>
    intro k rest hl hdrop T H K a w _ g h hq
    have : rest = [] := List.eq_nil_of_length_eq_zero hl
    subst this
    exact hq _ _ _ _ h g
  | succ n ih =>
    intro k rest hl hdrop T H K a w hsb g h hq
    cases rest with
    | nil => simp at hl
    | cons o rest =>
      have hk : ops[k]? = some o := by
        have : (ops.toList.drop k)[0]? = some o := by rw [hdrop]; rfl
        rw [List.getElem?_drop] at this
        simpa using this
      have hdrop' : ops.toList.drop (k + 1) = rest := by
        have := congrArg (List.drop 1) hdrop
        rw [List.drop_drop] at this
        simpa using this
      have hmem : o ∈ ops.toList := by
        have := List.mem_of_mem_drop (i := k) (l := ops.toList) (a := o) (by rw [hdrop]; simp)
        exact this
      have hnd := notDefer_spec (List.all_eq_true.1 hdf o hmem)
      have hdst : ∀ x, o.dst = some x → x < nt := by
        intro x hx
        have := List.all_eq_true.1 hok o hmem
        simp only [dstOk, hx] at this
        exact of_decide_eq_true this
      simp only [List.range'_succ, wpOpsIn, hk]
      have hlen : rest.length = n := by simpa using hl
      have hrun : ∀ (T1 : TT), Sub Tp T1 → Gam nt ds w0 fp T1 H a w → (opX tab tbl rs T1 H o.op (fun v H' => execOps tab tbl rs ops.toList KP rest (putT T1 o.dst v) H' K) KP) → o.wpIn (FW ro) 0 P a w (wpOpsIn (FW ro) 0 P ops Q (List.range' (k + 1) n)) Q := by
        intro T1 hs1 g1 h1
        refine opX_sound ht hb hrs hnd g1.tm g1.hh.hp h1 (fun v H' w' hk' hx _ => ?_) (fun v H' w' hk' hx => ?_)
        · exact ih (k + 1) rest hlen hdrop' _ _ K _ _ (hs1.put hno hmem v) (g1.put hdst v hx) hk' hq
        · exact hqp v H' a w' hk' ((g1.tt (hs1.matches g1.tm)).ext hx)
      have hskip : ∀ (T1 : TT), Sub Tp T1 → Gam nt ds w0 fp T1 H a w → execOps tab tbl rs ops.toList KP rest (putT T1 o.dst (.v undef)) H K → wpOpsIn (FW ro) 0 P ops Q (List.range' (k + 1) n) (a.put o.dst undef) w := by
        intro T1 hs1 g1 h1
        exact ih (k + 1) rest hlen hdrop' _ _ K _ _ (hs1.put hno hmem _) (g1.put hdst (.v undef) (Ext.refl' g1.hh.hp)) h1 hq
      simp only [execOps] at h
      split at h
      · rename_i hg
        have hw : Region.wanted o (yielded ops a.tmps) = true := by simp [Region.wanted, hg]
        rw [if_pos hw]
        exact hrun T hsb g h
      · rename_i j want hg
        split at h
        · rename_i d hd
          split at h
          · rename_i c hc
            have hdd : ∃ oj, ops[j]? = some oj ∧ oj.dst = some d := by
              cases hj : nth ops.toList j with
              | none => simp [hj] at hd
              | some oj => simp only [hj, Option.bind_some] at hd; rw [nth_eq] at hj; exact ⟨oj, by simpa using hj, hd⟩
            obtain ⟨oj, hj, hjd⟩ := hdd
            have hjm : oj ∈ ops.toList := List.mem_of_getElem? (i := j) (by simpa using hj)
            have hdnt : d < nt := by
              have := List.all_eq_true.1 hok oj hjm
              simp only [dstOk, hjd] at this
              exact of_decide_eq_true this
            have hval := g.tm d _ hc
            have hy : yielded ops a.tmps j = some c := by
              simp only [yielded, hj, Option.bind_some, hjd]
              rw [getD_some hval (by rw [g.sz]; exact hdnt)]
              rfl
            have hw : Region.wanted o (yielded ops a.tmps) = (c == want) := by
              simp only [Region.wanted, hg, hy]
              cases c <;> cases want <;> rfl
            rw [hw]
            cases c
            · have g1 : Gam nt ds w0 fp ((d, .v (.bool false)) :: T) H a w := g.tt (g.tm.setB hc rfl)
              have hs1 := hsb.consB hno hjm hjd (.v (.bool false))
              simp only [br_false] at h
              cases want
              · simp only [Bool.false_eq_true, if_false] at h
                simp only [beq_self_eq_true, if_true]
                exact hrun _ hs1 g1 h
              · simp only [if_true] at h
                exact ⟨fun _ _ => trivial, hskip _ hs1 g1 h⟩
            · have g1 : Gam nt ds w0 fp ((d, .v (.bool true)) :: T) H a w := g.tt (g.tm.setB hc rfl)
              have hs1 := hsb.consB hno hjm hjd (.v (.bool true))
              simp only [br_true] at h
              cases want
              · simp only [Bool.false_eq_true, if_false] at h
                exact ⟨fun _ _ => trivial, hskip _ hs1 g1 h⟩
              · simp only [if_true] at h
                simp only [beq_self_eq_true, if_true]
                exact hrun _ hs1 g1 h
          · rename_i c hc
            have hdd : ∃ oj, ops[j]? = some oj ∧ oj.dst = some d := by
              cases hj : nth ops.toList j with
              | none => simp [hj] at hd
              | some oj => simp only [hj, Option.bind_some] at hd; rw [nth_eq] at hj; exact ⟨oj, by simpa using hj, hd⟩
            obtain ⟨oj, hj, hjd⟩ := hdd
            have hjm : oj ∈ ops.toList := List.mem_of_getElem? (i := j) (by simpa using hj)
            have hdnt : d < nt := by
              have := List.all_eq_true.1 hok oj hjm
              simp only [dstOk, hjd] at this
              exact of_decide_eq_true this
            have hval := g.tm d _ hc
            have hy : yielded ops a.tmps j = none := by
              simp only [yielded, hj, Option.bind_some, hjd]
              rw [getD_some hval (by rw [g.sz]; exact hdnt)]
              rfl
            have hw : Region.wanted o (yielded ops a.tmps) = false := by
              simp only [Region.wanted, hg, hy]
              cases want <;> rfl
            rw [hw]
            exact ⟨fun _ _ => trivial, hskip _ hsb g h⟩
          · exact h.elim
        · exact h.elim
end
inductive Ex where
  | norm
  | exit (id : Nat)
  | ret
  | pan (v : AV)
def getEq (o : Option AV) (v : AV) : Prop :=
  match o with
  | some v' => v'.den = v.den
  | none => False
def LeT (T : TT) : TT → Prop
  | [] => True
  | (t, v) :: r => getEq (T.get t) v ∧ LeT T r
theorem LeT.get {T : TT} : ∀ {S : TT}, LeT T S → ∀ {t : Nat} {v : AV}, S.get t = some v → ∃ v', T.get t = some v' ∧ v'.den = v.den
  | [], _, _, _, h => by simp [TT.get] at h
  | (k, _) :: r, ⟨h1, h2⟩, t, _, h => by
    simp only [TT.get] at h
    split at h
    · rename_i e; subst e; cases h
      unfold getEq at h1
      split at h1
      · rename_i v' hv'; exact ⟨v', hv', h1⟩
      · exact h1.elim
    · exact LeT.get h2 h
def LeB (b c : Blk) : Prop := (∀ k ∈ c.nums, k ∈ b.nums) ∧ (c.own = true → b.own = true) ∧ ∀ w, b.c.holds w b.num → c.c.holds w c.num
theorem LeB.refl (b : Blk) : LeB b b := ⟨fun _ h => h, id, fun _ h => h⟩
def LeBs : HH → HH → Prop
  | [], [] => True
  | b :: H, c :: H' => LeB b c ∧ LeBs H H'
  | _, _ => False
theorem LeBs.refl : ∀ H : HH, LeBs H H
  | [] => trivial
  | b :: H => ⟨LeB.refl b, LeBs.refl H⟩
theorem LeBs.get : ∀ {H H' : HH}, LeBs H H' → ∀ {i : Nat} {c : Blk}, H'[i]? = some c → ∃ b, H[i]? = some b ∧ LeB b c
  | [], [], _, i, c, h => by simp at h
  | b :: _, d :: _, ⟨h1, _⟩, 0, c, h => by simp at h; subst h; exact ⟨b, rfl, h1⟩
  | _ :: _, _ :: _, ⟨_, h2⟩, i + 1, c, h => by
    simp only [List.getElem?_cons_succ] at h
    obtain ⟨b', hb', hl⟩ := LeBs.get h2 h
    exact ⟨b', by simpa using hb', hl⟩
  | [], _ :: _, h, _, _, _ => h.elim
  | _ :: _, [], _, i, c, h => by simp at h
def pickH (H : HH) : List Nat → HH
  | [] => []
  | i :: l => match nth H i with | some b => b :: pickH H l | none => pickH H l
theorem pickH_src {H : HH} : ∀ {l : List Nat} {i : Nat} {b : Blk}, (pickH H l)[i]? = some b → ∃ j, j ∈ l ∧ H[j]? = some b
  | [], i, b, h => by simp [pickH] at h
  | k :: l, i, b, h => by
    simp only [pickH] at h
    split at h
    · rename_i d hd
      rw [nth_eq] at hd
      cases i with
      | zero => simp at h; subst h; exact ⟨k, by simp, hd⟩
      | succ i =>
        simp only [List.getElem?_cons_succ] at h
        obtain ⟨j, hj, hb⟩ := pickH_src h
        exact ⟨j, by simp [hj], hb⟩
    · obtain ⟨j, hj, hb⟩ := pickH_src h
      exact ⟨j, by simp [hj], hb⟩
theorem pickH_apart {H : HH} (hap : ∀ (i j : Nat) (b c : Blk), H[i]? = some b → H[j]? = some c → i ≠ j → ∀ k ∈ b.nums, k ∉ c.nums) : ∀ {l : List Nat}, l.Nodup → ∀ (i j : Nat) (b c : Blk), (pickH H l)[i]? = some b → (pickH H l)[j]? = some c → i ≠ j → ∀ k ∈ b.nums, k ∉ c.nums
  | [], _, i, j, b, c, h, _, _ => by simp [pickH] at h
  | k :: l, hn, i, j, b, c, hi, hj, hij => by
    obtain ⟨hk, hn⟩ := List.nodup_cons.1 hn
    simp only [pickH] at hi hj
    split at hi
    · rename_i d hd
      rw [hd] at hj
      simp only [] at hj
      rw [nth_eq] at hd
      cases i with
      | zero =>
        cases j with
        | zero => exact absurd rfl hij
        | succ j =>
          simp at hi hj; subst hi
          obtain ⟨m, hm, hc⟩ := pickH_src hj
          exact hap k m _ _ hd hc (fun e => hk (e ▸ hm))
      | succ i =>
        cases j with
        | zero =>
          simp at hi hj; subst hj
          obtain ⟨m, hm, hc⟩ := pickH_src hi
          exact hap m k _ _ hc hd (fun e => hk (e ▸ hm))
        | succ j =>
          simp at hi hj
          exact pickH_apart hap hn i j b c hi hj (by omega)
    · rename_i hd
      rw [hd] at hj
      exact pickH_apart hap hn i j b c hi hj hij
structure LeH (H H' : HH) : Prop where
  holds : ∀ w, HoldsH H w → HoldsH H' w
  src : ∀ (i : Nat) (b : Blk), H'[i]? = some b → ∀ k ∈ b.nums, ∃ (j : Nat) (d : Blk), H[j]? = some d ∧ k ∈ d.nums ∧ (b.own = true → d.own = true)
theorem leAt {H H' : HH} (l : List Nat) (hn : l.Nodup) (hb : LeBs (pickH H l) H') : LeH H H' := by
  refine ⟨fun w hw => ⟨fun i c hi => ?_, fun i j b c hi hj hij k hk1 hk2 => ?_⟩, fun i c hi k hk => ?_⟩
  · obtain ⟨b, hb', _, _, h3⟩ := LeBs.get hb hi
    obtain ⟨j, _, hj⟩ := pickH_src hb'
    exact h3 w (hw.all j b hj)
  · obtain ⟨b', hb', h1, _, _⟩ := LeBs.get hb hi
    obtain ⟨c', hc', h2, _, _⟩ := LeBs.get hb hj
    exact pickH_apart hw.apart hn i j b' c' hb' hc' hij k (h1 k hk1) (h2 k hk2)
  · obtain ⟨b, hb', h1, h2, _⟩ := LeBs.get hb hi
    obtain ⟨j, _, hj⟩ := pickH_src hb'
    exact ⟨j, b, hj, h1 k hk, h2⟩
theorem LeH.refl (H : HH) : LeH H H := ⟨fun _ h => h, fun i b hi k hk => ⟨i, b, hi, hk, id⟩⟩
theorem leEq {H H' : HH} (h : H = H') : LeH H H' := h ▸ LeH.refl _
theorem LeH.trans {H H1 H2 : HH} (h : LeH H H1) (g : LeH H1 H2) : LeH H H2 := ⟨fun w hw => g.holds w (h.holds w hw), fun i b hi k hk => by
  obtain ⟨j, d, hj, hd, ho⟩ := g.src i b hi k hk
  obtain ⟨m, x, hm, hx, hxo⟩ := h.src j d hj k hd
  exact ⟨m, x, hm, hx, fun o => hxo (ho o)⟩⟩
theorem Whence.le {H0 H H' : HH} {s : Nat} (h : Whence H0 H s) (hl : LeH H H') : Whence H0 H' s := fun i b hi k hk => by
  obtain ⟨j, d, hj, hd, ho⟩ := hl.src i b hi k hk
  rcases h j d hj k hd with ⟨m, x, hm, hx, hxo⟩ | hx
  · exact .inl ⟨m, x, hm, hx, fun o => hxo (ho o)⟩
  · exact .inr hx
theorem HeapOk.le {w0 : World} {fp : HH} {H H' : HH} {w : World} (h : HeapOk w0 fp H w) (hl : LeH H H') : HeapOk w0 fp H' w := ⟨hl.holds w h.hp, h.fr, h.src.le hl⟩
theorem Gam.le {nt : Nat} {ds : DS} {w0 : World} {fp : HH} {T T' : TT} {H H' : HH} {a : Act} {w : World} (g : Gam nt ds w0 fp T H a w) (h1 : LeT T T') (h2 : LeH H H') : Gam nt ds w0 fp T' H' a w :=
  ⟨fun t _ hv => let ⟨v', hv', e⟩ := h1.get hv; (g.tm t v' hv').trans e, g.sz, by
    obtain ⟨rs, e1, es, e2, e3⟩ := g.df
    refine ⟨rs, e1, es, e2, fun r hr => ⟨(e3 r hr).1, (e3 r hr).2.1, fun i c hi hn => ?_⟩⟩
    obtain ⟨j, d, hj, hd, _⟩ := h2.src i c hi r hn
    exact (e3 r hr).2.2 j d hj hd, g.hh.le h2⟩
structure To (H H' : HH) (w : World) : Prop where
  hp : HoldsH H' w
  src : ∀ (i : Nat) (b : Blk), H'[i]? = some b → ∀ k ∈ b.nums, ∃ (j : Nat) (d : Blk), H[j]? = some d ∧ k ∈ d.nums ∧ (b.own = true → d.own = true)
theorem LeH.to {H H' : HH} (h : LeH H H') {w : World} (hw : HoldsH H w) : To H H' w := ⟨h.holds w hw, h.src⟩
theorem To.trans {H H1 H2 : HH} {w : World} (h : To H H1 w) (g : To H1 H2 w) : To H H2 w := ⟨g.hp, fun i b hi k hk => by
  obtain ⟨j, d, hj, hd, ho⟩ := g.src i b hi k hk
  obtain ⟨m, x, hm, hx, hxo⟩ := h.src j d hj k hd
  exact ⟨m, x, hm, hx, fun o => hxo (ho o)⟩⟩
theorem To.refl {H : HH} {w : World} (h : HoldsH H w) : To H H w := ⟨h, fun i b hi k hk => ⟨i, b, hi, hk, id⟩⟩
theorem HeapOk.tow {w0 : World} {fp : HH} {H H' : HH} {w : World} (h : HeapOk w0 fp H w) (t : To H H' w) : HeapOk w0 fp H' w := ⟨t.hp, h.fr, fun i b hi k hk => by
  obtain ⟨j, d, hj, hd, ho⟩ := t.src i b hi k hk
  rcases h.src j d hj k hd with ⟨m, x, hm, hx, hxo⟩ | hx
  · exact .inl ⟨m, x, hm, hx, fun o => hxo (ho o)⟩
  · exact .inr hx⟩
theorem Gam.tow {nt : Nat} {ds : DS} {w0 : World} {fp : HH} {T T' : TT} {H H' : HH} {a : Act} {w : World} (g : Gam nt ds w0 fp T H a w) (h1 : LeT T T') (h2 : To H H' w) : Gam nt ds w0 fp T' H' a w :=
  ⟨fun t _ hv => let ⟨v', hv', e⟩ := h1.get hv; (g.tm t v' hv').trans e, g.sz, by
    obtain ⟨rs, e1, es, e2, e3⟩ := g.df
    refine ⟨rs, e1, es, e2, fun r hr => ⟨(e3 r hr).1, (e3 r hr).2.1, fun i c hi hn => ?_⟩⟩
    obtain ⟨j, d, hj, hd, _⟩ := h2.src i c hi r hn
    exact (e3 r hr).2.2 j d hj hd, g.hh.tow h2⟩
structure Shape where
  X : Type
  St : X → TT × HH
  I : X → Prop
  μ : X → Nat
inductive LI where
  | inv (X : Type) (St : X → TT × HH) (I : X → Prop) (μ : X → Nat)
  | unroll (n : Nat)
  | shapes (l : List Shape)
  | sem (l : List Shape)
abbrev Inv := Nat → TT → HH → LI
def unrollK (body : TT → HH → (Ex → TT → HH → Prop) → Prop) : Nat → TT → HH → (Ex → TT → HH → Prop) → Prop
  | 0, _, _, _ => False
  | n + 1, T, H, K => body T H fun e T' H' =>
    match e with
    | .norm => unrollK body n T' H' K
    | e => K e T' H'
def exS (s : Shape) (b : Option Nat) (T : TT) (H : HH) : Prop :=
  match b with
  | none => ∃ x : s.X, s.I x ∧ LeT T (s.St x).1 ∧ LeH H (s.St x).2
  | some n => ∃ x : s.X, s.I x ∧ s.μ x < n ∧ LeT T (s.St x).1 ∧ LeH H (s.St x).2
def exSh : List Shape → Option Nat → TT → HH → Prop
  | [], _, _, _ => False
  | [s], b, T, H => exS s b T H
  | s :: l, b, T, H => exS s b T H ∨ exSh l b T H
def allSh : List Shape → (Shape → Prop) → Prop
  | [], _ => True
  | [s], f => f s
  | s :: l, f => f s ∧ allSh l f
theorem exSh_spec {b : Option Nat} {T : TT} {H : HH} : ∀ {l : List Shape}, exSh l b T H → ∃ s ∈ l, exS s b T H
  | [s], h => ⟨s, by simp, h⟩
  | s :: t :: l, h => by
    rcases h with h | h
    · exact ⟨s, by simp, h⟩
    · obtain ⟨u, hu, hx⟩ := exSh_spec (l := t :: l) h
      exact ⟨u, by simp [hu], hx⟩
theorem allSh_spec {f : Shape → Prop} : ∀ {l : List Shape}, allSh l f → ∀ s ∈ l, f s
  | [], _, s, hs => by simp at hs
  | [t], h, s, hs => by simp at hs; subst hs; exact h
  | t :: u :: l, h, s, hs => by
    rcases List.mem_cons.1 hs with rfl | hs
    · exact h.1
    · exact allSh_spec (l := u :: l) h.2 s hs
def exW (s : Shape) (b : Option Nat) (T : TT) (H : HH) (w : World) : Prop :=
  match b with
  | none => ∃ x : s.X, s.I x ∧ LeT T (s.St x).1 ∧ To H (s.St x).2 w
  | some n => ∃ x : s.X, s.I x ∧ s.μ x < n ∧ LeT T (s.St x).1 ∧ To H (s.St x).2 w
def exWs : List Shape → Option Nat → TT → HH → World → Prop
  | [], _, _, _, _ => False
  | [s], b, T, H, w => exW s b T H w
  | s :: l, b, T, H, w => exW s b T H w ∨ exWs l b T H w
theorem exWs_spec {b : Option Nat} {T : TT} {H : HH} {w : World} : ∀ {l : List Shape}, exWs l b T H w → ∃ s ∈ l, exW s b T H w
  | [s], h => ⟨s, by simp, h⟩
  | s :: t :: l, h => by
    rcases h with h | h
    · exact ⟨s, by simp, h⟩
    · obtain ⟨u, hu, hx⟩ := exWs_spec (l := t :: l) h
      exact ⟨u, by simp [hu], hx⟩
def semTo (l : List Shape) (b : Option Nat) (T : TT) (H : HH) : Prop := ∀ w, HoldsH H w → exWs l b T H w
def loopK (li : LI) (body : TT → HH → (Ex → TT → HH → Prop) → Prop) (T : TT) (H : HH) (K : Ex → TT → HH → Prop) : Prop :=
  match li with
  | .inv X St I μ => (∃ x : X, I x ∧ LeT T (St x).1 ∧ LeH H (St x).2) ∧
    ∀ x, I x → body (St x).1 (St x).2 fun e T' H' =>
      match e with
      | .norm => ∃ x', I x' ∧ μ x' < μ x ∧ LeT T' (St x').1 ∧ LeH H' (St x').2
      | e => K e T' H'
  | .unroll n => unrollK body n T H K
  | .shapes l => exSh l none T H ∧ allSh l fun s => ∀ x, s.I x → body (s.St x).1 (s.St x).2 fun e T' H' =>
      match e with
      | .norm => exSh l (some (s.μ x)) T' H'
      | e => K e T' H'
  | .sem l => semTo l none T H ∧ allSh l fun s => ∀ x, s.I x → body (s.St x).1 (s.St x).2 fun e T' H' =>
      match e with
      | .norm => semTo l (some (s.μ x)) T' H'
      | e => K e T' H'
def setSt (H : HH) (id num : Nat) (f : LoopState → Option Code → Option (LoopState × Option Code)) (K : HH → Prop) : Prop :=
  match nth H id with
  | some ⟨m, .loopc lvl st pend T nt ps asg bdy, true⟩ => num = m ∧
    (match f st pend with
     | some (st', pend') => K (H.set id ⟨m, .loopc lvl st' pend' T nt ps asg bdy, true⟩)
     | none => False)
  | _ => False
theorem setSt_spec {H : HH} {id num : Nat} {f : LoopState → Option Code → Option (LoopState × Option Code)} {K : HH → Prop} (h : setSt H id num f K) :
    ∃ lvl st pend T nt ps asg bdy st' pend', H[id]? = some ⟨num, .loopc lvl st pend T nt ps asg bdy, true⟩ ∧ f st pend = some (st', pend') ∧ K (H.set id ⟨num, .loopc lvl st' pend' T nt ps asg bdy, true⟩) := by
  unfold setSt at h
  split at h
  · rename_i m lvl st pend T nt ps asg bdy hb
    obtain ⟨rfl, h⟩ := h
    rw [nth_eq] at hb
    split at h
    · rename_i st' pend' hf
      exact ⟨_, _, _, _, _, _, _, _, _, _, hb, hf, h⟩
    · exact h.elim
  · exact h.elim
def endK (H : HH) (id num : Nat) (K : Option Code → HH → Prop) : Prop :=
  match nth H id with
  | some ⟨m, .loopc lvl st pend T nt ps asg bdy, true⟩ => num = m ∧
    (match st with
     | .busy => False
     | _ => K pend (H.set id ⟨m, .loopc lvl .exhausted pend T nt ps asg bdy, true⟩))
  | _ => False
def endGo (K : Ex → TT → HH → Prop) (T : TT) (pend : Option Code) (H2 : HH) : Prop :=
  match pend with
  | none => K .norm T H2
  | some .ret => K .ret T H2
  | some (.exit i) => K (.exit i) T H2
  | _ => False
def roOk (ro : Option (Nat × Nat)) (H : HH) (A : Prop) : Prop :=
  match ro with
  | none => A
  | some (id, n) =>
    match nth H id with
    | some ⟨m, .loopc .., true⟩ => n = m ∧ A
    | _ => False
def bindT : List Nat → List AV → TT → TT
  | p :: ps, v :: vs, T => bindT ps vs ((p, v) :: T)
  | _, _, T => T
def cutAt (inv : Inv) (a : Code) (T : TT) (H : HH) : Option (List Shape) :=
  match a with
  | .region id _ _ => (match inv (1000000 + id) T H with | .sem l => some l | _ => none)
  | _ => none
def exec (tab : Tab) (tbl : Tbl) (inv : Inv) (rex : RS → REx) (nt : Nat) (rs : RS) (ro : Option (Nat × Nat)) (blk : Nat) : Code → TT → HH → (Ex → TT → HH → Prop) → Prop
  | .skip, T, H, K => K .norm T H
  | .region _ ops draw, T, H, K =>
    match draw with
    | false => execOps tab tbl rs ops.toList (fun v H' => K (.pan v) (dropT (dsts ops.toList) T) H') ops.toList T H (K .norm)
    | true => execPlan tab tbl rs ops.toList (fun v H' => K (.pan v) (dropT (dsts ops.toList) T) H') ops.toList.length [] T H [] (K .norm)
  | .seq a b, T, H, K =>
    match cutAt inv a T H with
    | some l => exec tab tbl inv rex nt rs ro blk a T H (fun e T' H' =>
        match e with
        | .norm => semTo l none T' H'
        | e => K e T' H') ∧ allSh l fun s => ∀ x, s.I x → exec tab tbl inv rex nt rs ro blk b (s.St x).1 (s.St x).2 K
    | none => exec tab tbl inv rex nt rs ro blk a T H fun e T' H' =>
      match e with
      | .norm => exec tab tbl inv rex nt rs ro blk b T' H' K
      | e => K e T' H'
  | .cond c x y, T, H, K =>
    match c with
    | .tmp d =>
      match T.get d with
      | some (.v (.bool t)) => br t (exec tab tbl inv rex nt rs ro blk x ((d, .v (.bool true)) :: T) H K) (exec tab tbl inv rex nt rs ro blk y ((d, .v (.bool false)) :: T) H K)
      | _ => False
    | .const (.bool t) => br t (exec tab tbl inv rex nt rs ro blk x T H K) (exec tab tbl inv rex nt rs ro blk y T H K)
    | _ => False
  | .block id c, T, H, K => exec tab tbl inv rex nt rs ro id c T H fun e T' H' =>
    match e with
    | .exit i => (match Nat.beq i id with | true => K .norm T' H' | false => K (.exit i) T' H')
    | e => K e T' H'
  | .loop c, T, H, K => loopK (inv blk T H) (exec tab tbl inv rex nt rs ro blk c) T H K
  | .exit id, T, H, K => K (.exit id) T H
  | .label _, T, H, K => K .norm T H
  | .scope c, T, H, K => exec tab tbl inv rex nt rs ro blk c T H K
  | .ret, T, H, K => K .ret T H
  | .rangeFunc g ps asg bdy, T, H, K => evalK T g fun gv =>
    match gv with
    | .fn (.func f) first cap =>
      match tbl.get f with
      | some (.gen h) => roOk ro H <| ∀ l, h (rex rs :: rs) (first ++ [.yl H.length l] ++ cap) (H ++ [⟨l, .loopc rs.length .ready none T nt ps.toList asg bdy, true⟩]) fun o H' =>
        match o with
        | .ret _ => endK H' H.length l (endGo K T)
        | .pan v => K (.pan v) T H'
      | _ => False
    | _ => False
  | _, _, _, _ => False
def codeOk (tab : Tab) (nt : Nat) : Code → Bool
  | .region _ ops draw => ops.toList.all (dstOk nt) && ops.toList.all notDefer && (!draw || (Region.noSelect ops && planOk tab ops ops.toList.length [] (Array.replicate ops.size false)))
  | .seq a b => codeOk tab nt a && codeOk tab nt b
  | .cond _ x y => codeOk tab nt x && codeOk tab nt y
  | .block _ c => codeOk tab nt c
  | .loop c => codeOk tab nt c
  | .scope c => codeOk tab nt c
  | .rangeFunc _ _ a c => codeOk tab nt a && codeOk tab nt c
  | _ => true
def roundX (tab : Tab) (ex : Nat → Option (Nat × Nat) → Code → TT → HH → (Ex → TT → HH → Prop) → Prop) : REx := fun T nt ps asg bdy args id num H K =>
  ck (Nat.beq ps.length args.length && ps.all (fun p => Nat.blt p nt) && codeOk tab nt asg && codeOk tab nt bdy) <|
  ex nt (some (id, num)) asg (bindT ps args T) H fun e T1 H1 =>
    match e with
    | .norm => setSt H1 id num (fun st pend => match st with | .ready => some (.busy, pend) | _ => none) fun H2 =>
      ex nt (some (id, num)) bdy T1 H2 fun e _ H3 =>
        match e with
        | .norm => setSt H3 id num (fun _ _ => some (.ready, none)) fun H4 => K (.ret (.v (.bool true))) H4
        | .exit i => setSt H3 id num (fun _ _ => some (.done, some (.exit i))) fun H4 => K (.ret (.v (.bool false))) H4
        | .ret => setSt H3 id num (fun _ _ => some (.done, some .ret)) fun H4 => K (.ret (.v (.bool false))) H4
        | .pan _ => False
    | _ => False
def execN (tab : Tab) (tbl : Tbl) (inv : Inv) : Nat → Nat → RS → Option (Nat × Nat) → Nat → Code → TT → HH → (Ex → TT → HH → Prop) → Prop
  | 0, nt, rs, ro, blk => exec tab tbl inv (fun _ _ _ _ _ _ _ _ _ _ _ => False) nt rs ro blk
  | k + 1, nt, rs, ro, blk => exec tab tbl inv (fun rs' => roundX tab (fun nt' ro' c => execN tab tbl inv k nt' rs' ro' 0 c)) nt rs ro blk
def ExPost (nt : Nat) (ds : DS) (w0 : World) (fp : HH) (K : Ex → TT → HH → Prop) : Exit → Act → World → Prop
  | .normal, a, w => ∃ T H, K .norm T H ∧ Gam nt ds w0 fp T H a w
  | .exit id, a, w => ∃ T H, K (.exit id) T H ∧ Gam nt ds w0 fp T H a w
  | .ret, a, w => ∃ T H, K .ret T H ∧ Gam nt ds w0 fp T H a w
  | .panic ch, a, w => ∃ v T H, ch = [{ v := v.den, recovered := false }] ∧ K (.pan v) T H ∧ Gam nt ds w0 fp T H a w
  | _, _, _ => False
def RegPost (nt : Nat) (ds : DS) (w0 : World) (fp : HH) (Kn : TT → HH → Prop) (KP : AV → HH → Prop) (Tp : TT) : Exit → Act → World → Prop
  | .normal, a, w => ∃ T H, Kn T H ∧ Gam nt ds w0 fp T H a w
  | .panic ch, a, w => ∃ v H, ch = [{ v := v.den, recovered := false }] ∧ KP v H ∧ Gam nt ds w0 fp Tp H a w
  | _, _, _ => False
theorem RegPost.to {nt : Nat} {ds : DS} {w0 : World} {fp : HH} {K : Ex → TT → HH → Prop} {Tp : TT} : ∀ e a w, RegPost nt ds w0 fp (K .norm) (fun v H => K (.pan v) Tp H) Tp e a w → ExPost nt ds w0 fp K e a w
  | .normal, _, _, h => h
  | .panic _, _, _, ⟨v, H, e, h, g⟩ => ⟨v, Tp, H, e, h, g⟩
  | .exit _, _, _, h => h.elim
  | .ret, _, _, h => h.elim
  | .goto _, _, _, h => h.elim
  | .outgrown, _, _, h => h.elim
theorem run_getLoop {P : Program} {w : World} {l : Nat} {r : Loop} (h : w.heap[l]? = some (.loop r)) : (Instr.getLoop l).run P w = .ok r w := by simp [Instr.getLoop, getObj, Sem.run, h]
def _root_.Go.World.putO (w : World) (l : Nat) (o : Obj) : World := { w with heap := w.heap.setIfInBounds l o }
theorem run_setLoop {P : Program} {w : World} {l : Nat} {r : Loop} {o : Obj} (h : w.heap[l]? = some (.loop r)) : (setObj l o).run P w = .ok () (w.putO l o) := by
  simp [setObj, Sem.run, h]; rfl
theorem putObj_at {w : World} {l : Nat} {o : Obj} (h : l < w.heap.size) : (w.putO l o).heap[l]? = some o := by simp [World.putO, h]
theorem putObj_ne {w : World} {l k : Nat} {o : Obj} (h : k ≠ l) : (w.putO l o).heap[k]? = w.heap[k]? := by
  simp [World.putO, Array.getElem?_setIfInBounds_ne (Ne.symm h)]
theorem putObj_size {w : World} {l : Nat} {o : Obj} : (w.putO l o).heap.size = w.heap.size := by simp [World.putO]
theorem turnLoop {H : HH} {w : World} (hh : HoldsH H w) {id num lvl nt : Nat} {st st' : LoopState} {pend pend' : Option Code} {T : TT} {ps : List Nat} {asg bdy : Code} (hb : H[id]? = some ⟨num, .loopc lvl st pend T nt ps asg bdy, true⟩) :
    ∃ r : Loop, w.heap[num]? = some (.loop r) ∧ r.state = st ∧ r.pending = pend ∧ Ext H (H.set id ⟨num, .loopc lvl st' pend' T nt ps asg bdy, true⟩) w (w.putO num (.loop { r with state := st', pending := pend' })) := by
  obtain ⟨r, hr, hl⟩ := hh.all id _ hb
  have hlt : num < w.heap.size := (Array.getElem?_eq_some_iff.1 hr).1
  refine ⟨r, hr, hl.st, hl.pend, ?_⟩
  have := (HeapOk.enter hh).turn (w' := w.putO num (.loop { r with state := st', pending := pend' })) hb rfl (.loopc lvl st' pend' T nt ps asg bdy) ⟨_, putObj_at hlt, ⟨rfl, rfl, hl.tm, hl.sz, hl.ps, hl.asg, hl.bdy⟩⟩ rfl rfl rfl putObj_size (fun k hk => putObj_ne hk)
  exact this.toExt
section
variable {P : Program} {tab : Tab} {tbl : Tbl} {nt : Nat} {ds : DS} {w0 : World} {fp : HH}
theorem shapes_sound {body : TT → HH → (Ex → TT → HH → Prop) → Prop} {F : Fence} {c : Code} {K : Ex → TT → HH → Prop} (l : List Shape)
    (ih : ∀ (T : TT) (H : HH) (K : Ex → TT → HH → Prop) (a : Act) (w : World), Gam nt ds w0 fp T H a w → body T H K → c.wpIn F 0 P (ExPost nt ds w0 fp K) a w)
    {T : TT} {H : HH} {a : Act} {w : World} (g : Gam nt ds w0 fp T H a w) (h0 : exSh l none T H)
    (hround : allSh l fun s => ∀ x, s.I x → body (s.St x).1 (s.St x).2 fun e T' H' =>
      match e with
      | .norm => exSh l (some (s.μ x)) T' H'
      | e => K e T' H') : (Code.loop c).wpIn F 0 P (ExPost nt ds w0 fp K) a w := by
  obtain ⟨s0, hs0, x0, hI0, hT0, hH0⟩ := exSh_spec h0
  refine wpIn_loop_ghost (fun n a w => ∃ s ∈ l, ∃ x : s.X, s.μ x = n ∧ s.I x ∧ Gam nt ds w0 fp (s.St x).1 (s.St x).2 a w) (s0.μ x0) ⟨s0, hs0, x0, rfl, hI0, g.le hT0 hH0⟩ ?_
  rintro n a1 w1 ⟨s, hs, x, rfl, hI, g1⟩
  refine wpIn_mono (ih _ _ _ a1 w1 g1 (allSh_spec hround s hs x hI)) ?_
  intro e a' w' hq
  cases e with
  | normal =>
    obtain ⟨T', H', hex, g'⟩ := hq
    obtain ⟨s', hs', x', hI', hlt, hT', hH'⟩ := exSh_spec hex
    exact ⟨s'.μ x', hlt, s', hs', x', rfl, hI', g'.le hT' hH'⟩
  | exit i => exact hq
  | ret => exact hq
  | goto l => exact hq
  | panic ch => exact hq
  | outgrown => exact hq
theorem sem_sound {body : TT → HH → (Ex → TT → HH → Prop) → Prop} {F : Fence} {c : Code} {K : Ex → TT → HH → Prop} (l : List Shape)
    (ih : ∀ (T : TT) (H : HH) (K : Ex → TT → HH → Prop) (a : Act) (w : World), Gam nt ds w0 fp T H a w → body T H K → c.wpIn F 0 P (ExPost nt ds w0 fp K) a w)
    {T : TT} {H : HH} {a : Act} {w : World} (g : Gam nt ds w0 fp T H a w) (h0 : semTo l none T H)
    (hround : allSh l fun s => ∀ x, s.I x → body (s.St x).1 (s.St x).2 fun e T' H' =>
      match e with
      | .norm => semTo l (some (s.μ x)) T' H'
      | e => K e T' H') : (Code.loop c).wpIn F 0 P (ExPost nt ds w0 fp K) a w := by
  obtain ⟨s0, hs0, x0, hI0, hT0, hH0⟩ := exWs_spec (h0 w g.hh.hp)
  refine wpIn_loop_ghost (fun n a w => ∃ s ∈ l, ∃ x : s.X, s.μ x = n ∧ s.I x ∧ Gam nt ds w0 fp (s.St x).1 (s.St x).2 a w) (s0.μ x0) ⟨s0, hs0, x0, rfl, hI0, g.tow hT0 hH0⟩ ?_
  rintro n a1 w1 ⟨s, hs, x, rfl, hI, g1⟩
  refine wpIn_mono (ih _ _ _ a1 w1 g1 (allSh_spec hround s hs x hI)) ?_
  intro e a' w' hq
  cases e with
  | normal =>
    obtain ⟨T', H', hex, g'⟩ := hq
    obtain ⟨s', hs', x', hI', hlt, hT', hH'⟩ := exWs_spec (hex w' g'.hh.hp)
    exact ⟨s'.μ x', hlt, s', hs', x', rfl, hI', g'.tow hT' hH'⟩
  | exit i => exact hq
  | ret => exact hq
  | goto l => exact hq
  | panic ch => exact hq
  | outgrown => exact hq
theorem stepR_scope {P : Program} {b : Frame} {a : Act} {k : List Item} {cs : List Frame} {w : World} {c : Code} : step P (lone (b.atR a (.code (.scope c) :: k)) cs w) = .next (lone (b.atR a (.code c :: .inScope c :: k)) cs w) :=
  step_lone_go (by simp [stepG, stepG.exec, Frame.atR])
theorem stepR_inScope {P : Program} {b : Frame} {a : Act} {k : List Item} {cs : List Frame} {w : World} {c : Code} : step P (lone (b.atR a (.inScope c :: k)) cs w) = .next (lone (b.atR a k) cs w) :=
  step_lone_go (by simp [stepG, stepG.exec, Frame.atR])
theorem wpIn_scope {F : Fence} {n : Nat} {P : Program} {c : Code} {Q : Exit → Act → World → Prop} {a : Act} {w : World} (h : c.wpIn F n P Q a w) (hg : ∀ l a w, ¬ Q (.goto l) a w) : (Code.scope c).wpIn F n P Q a w := by
  intro b k cs hro hb hr
  have h0 : (lone (b.atR a (.code (.scope c) :: k)) cs w).fenced P F := fenced_calm hb hr rfl
  obtain ⟨e, a₁, w₁, hq, harr⟩ := h b (.inScope c :: k) cs hro hb hr
  cases e with
  | normal => exact ⟨.normal, a₁, w₁, hq, .head h0 stepR_scope (StepsIn.trans harr (.one (fenced_calm hb hr rfl) stepR_inScope))⟩
  | exit id =>
    have hx : exitTo id (.inScope c :: k) = exitTo id k := by simp [exitTo]
    exact ⟨.exit id, a₁, w₁, hq, fun k' hk => .head h0 stepR_scope (harr.1 k' (by rw [hx]; exact hk)),
      fun hr' hk => let ⟨k₁, h1, h2⟩ := harr.2 hr' (by rw [hx]; exact hk); ⟨k₁, h1, .head h0 stepR_scope h2⟩⟩
  | goto l => exact absurd hq (hg l _ _)
  | ret => exact ⟨_, a₁, w₁, hq, .of_steps (.one h0 stepR_scope) harr⟩
  | panic ch => exact ⟨_, a₁, w₁, hq, .of_steps (.one h0 stepR_scope) harr⟩
  | outgrown => exact ⟨_, a₁, w₁, hq, .of_steps (.one h0 stepR_scope) harr⟩
theorem evalO_den_func {T : TT} {a : Act} (hm : Matches T a.tmps) {g : Operand} {f : FuncId} {first cap : List AV} (h : evalO T g = some (.fn (.func f) first cap)) : a.eval g = .func (.func f) (denL first).toArray (denL cap).toArray := by
  rw [evalO_sound hm h]; rfl
def noRF : Code → Bool
  | .seq a b => noRF a && noRF b
  | .cond _ a b => noRF a && noRF b
  | .block _ c => noRF c
  | .loop c => noRF c
  | .scope c => noRF c
  | .rangeFunc .. => false
  | _ => true
theorem exec_sound (ht : TabOk P tab) (hb : TblOk P tbl) (hmix : P.follows .mixedOrders = true) (inv : Inv) {rex : RS → REx} (hrex : ∀ rs, RsOk P rs → ReOk P (rex rs)) {rs : RS} (hrs : RsOk P rs) (ro : Option (Nat × Nat)) :
    ∀ (c : Code) (blk : Nat) (T : TT) (H : HH) (K : Ex → TT → HH → Prop) (a : Act) (w : World), codeOk tab nt c = true → (ds.s = true → noRF c = true) → Gam nt ds w0 fp T H a w → exec tab tbl inv rex nt rs ro blk c T H K → c.wpIn (FW (ro.map (·.2))) 0 P (ExPost nt ds w0 fp K) a w := by
  intro c
  induction c with
  | skip => intro blk T H K a w _ _ g h; exact wpIn_skip ⟨T, H, h, g⟩
  | region id ops draw =>
    intro blk T H K a w hok hnr g h
    simp only [codeOk, Bool.and_eq_true] at hok
    obtain ⟨⟨hok, hdf⟩, hdr⟩ := hok
    have hno : NoDst ops.toList (dropT (dsts ops.toList) T) := dropT_no _ _
    have hsb : Sub (dropT (dsts ops.toList) T) T := dropT_sub _ _
    refine wpIn_mono (Q := RegPost nt ds w0 fp (K .norm) (fun v H' => K (.pan v) (dropT (dsts ops.toList) T) H') (dropT (dsts ops.toList) T)) ?_ RegPost.to
    cases draw with
    | false =>
      refine wpIn_region ?_
      rw [List.range_eq_range']
      have hl : ops.toList.length = ops.size := by simp
      exact execOps_sound ht hb hrs ops hok hdf hno (fun v H' a' w' hk g' => ⟨v, H', rfl, hk, g'⟩) ops.size 0 ops.toList hl (by simp) T H (K .norm) a w hsb g h (fun T' H' a' w' hk g' => ⟨T', H', hk, g'⟩)
    | true =>
      simp only [Bool.not_true, Bool.false_or, Bool.and_eq_true, beq_iff_eq] at hdr
      obtain ⟨hns, hpo⟩ := hdr
      refine wpIn_region_any hmix (wpAnyX_any (prs := prsOf ops []) _ _ _ _ ?_)
      have hl : ops.toList.length = ops.size := by simp
      rw [← hl]
      rw [← hl] at hpo
      have g1 : Gam nt ds w0 fp T H a { w with drawn := w.drawn + 1 } := g.ext ((HeapOk.enter g.hh.hp).same (w' := { w with drawn := w.drawn + 1 }) { heap := rfl, os := rfl, tape := rfl, output := rfl }).toExt
      exact execPlan_sound ht hb hrs ops hok hdf hns hno (fun c o v a w ho hq => by
          obtain ⟨v', H', e, hk, g'⟩ := hq
          exact ⟨v', H', e, hk, g'.unput (fun x hx => hno o ho x hx)⟩) (fun v H' a' w' hk g' => ⟨v, H', rfl, hk, g'⟩) ops.toList.length [] _ T H [] (K .norm) a _ hpo hsb g1 h (fun T' H' a' w' hk g' => ⟨T', H', hk, g'⟩)
  | seq x y ihx ihy =>
    intro blk T H K a w hok hnr g h
    simp only [codeOk, Bool.and_eq_true] at hok
    have hnx : ds.s = true → noRF x = true := fun e => by have := hnr e; simp only [noRF, Bool.and_eq_true] at this; exact this.1
    have hny : ds.s = true → noRF y = true := fun e => by have := hnr e; simp only [noRF, Bool.and_eq_true] at this; exact this.2
    simp only [exec] at h
    split at h
    · rename_i l hl
      obtain ⟨h, h2⟩ := h
      refine wpIn_seq (wpIn_mono (ihx blk T H _ a w hok.1 hnx g h) ?_)
      intro e a' w' hq
      cases e with
      | normal =>
        obtain ⟨T', H', hk, g'⟩ := hq
        obtain ⟨s, hs, x0, hI, hT, hH⟩ := exWs_spec (hk w' g'.hh.hp)
        exact ihy blk _ _ K a' w' hok.2 hny (g'.tow hT hH) (allSh_spec h2 s hs x0 hI)
      | exit i => exact hq
      | ret => exact hq
      | goto l => exact hq
      | panic ch => exact hq
      | outgrown => exact hq
    refine wpIn_seq (wpIn_mono (ihx blk T H _ a w hok.1 hnx g h) ?_)
    intro e a' w' hq
    cases e with
    | normal => obtain ⟨T', H', hk, g'⟩ := hq; exact ihy blk T' H' K a' w' hok.2 hny g' hk
    | exit i => exact hq
    | ret => exact hq
    | goto l => exact hq
    | panic ch => exact hq
    | outgrown => exact hq
  | cond c x y ihx ihy =>
    intro blk T H K a w hok hnr g h
    simp only [codeOk, Bool.and_eq_true] at hok
    simp only [exec] at h
    split at h
    · rename_i d
      split at h
      · rename_i t hd
        have he : a.eval (.tmp d) = .bool t := g.tm d _ hd
        refine wpIn_cond_split he (fun e => ?_) (fun e => ?_)
        · subst e; exact ihx blk _ H K a w hok.1 (fun e => (by have := hnr e; simp only [noRF, Bool.and_eq_true] at this; exact this.1)) (g.tt (g.tm.setB hd rfl)) h
        · subst e; exact ihy blk _ H K a w hok.2 (fun e => (by have := hnr e; simp only [noRF, Bool.and_eq_true] at this; exact this.2)) (g.tt (g.tm.setB hd rfl)) h
      · exact h.elim
    · rename_i t
      refine wpIn_cond_split (t := t) rfl (fun e => ?_) (fun e => ?_)
      · subst e; exact ihx blk _ H K a w hok.1 (fun e => (by have := hnr e; simp only [noRF, Bool.and_eq_true] at this; exact this.1)) g h
      · subst e; exact ihy blk _ H K a w hok.2 (fun e => (by have := hnr e; simp only [noRF, Bool.and_eq_true] at this; exact this.2)) g h
    · exact h.elim
  | block id c ih =>
    intro blk T H K a w hok hnr g h
    refine wpIn_block (wpIn_mono (ih id T H _ a w hok (fun e => hnr e) g h) ?_)
    intro e a' w' hq
    cases e with
    | exit i =>
      obtain ⟨T', H', hk, g'⟩ := hq
      simp only [Exit.inBlock]
      simp only [] at hk
      by_cases hi : i = id
      · rw [if_pos hi]
        rw [show Nat.beq i id = true from by rw [hi]; exact Nat.beq_refl id] at hk
        exact ⟨T', H', hk, g'⟩
      · rw [if_neg hi]
        rw [show Nat.beq i id = false from by rw [Bool.eq_false_iff]; exact fun e => hi (Nat.eq_of_beq_eq_true e)] at hk
        exact ⟨T', H', hk, g'⟩
    | normal => exact hq
    | ret => exact hq
    | goto l => exact hq
    | panic ch => exact hq
    | outgrown => exact hq
  | loop c ih =>
    intro blk T H K a w hok hnr g h
    simp only [exec] at h
    unfold loopK at h
    split at h
    · rename_i X St I μ _
      obtain ⟨⟨x0, hI0, hT0, hH0⟩, hround⟩ := h
      refine wpIn_loop_ghost (fun n a w => ∃ x, μ x = n ∧ I x ∧ Gam nt ds w0 fp (St x).1 (St x).2 a w) (μ x0) ⟨x0, rfl, hI0, g.le hT0 hH0⟩ ?_
      rintro n a1 w1 ⟨x, rfl, hI, g1⟩
      refine wpIn_mono (ih blk _ _ _ a1 w1 hok (fun e => hnr e) g1 (hround x hI)) ?_
      intro e a' w' hq
      cases e with
      | normal =>
        obtain ⟨T', H', ⟨x', hI', hlt, hT', hH'⟩, g'⟩ := hq
        exact ⟨μ x', hlt, x', rfl, hI', g'.le hT' hH'⟩
      | exit i => exact hq
      | ret => exact hq
      | goto l => exact hq
      | panic ch => exact hq
      | outgrown => exact hq
    · rename_i n hli
      clear hli
      refine wpIn_loop_rounds n ?_
      induction n generalizing T H a w with
      | zero => exact h.elim
      | succ n ihn =>
        rw [roundsIn_succ]
        refine wpIn_mono (ih blk T H _ a w hok (fun e => hnr e) g h) ?_
        intro e a' w' hq
        cases e with
        | normal => obtain ⟨T', H', hk, g'⟩ := hq; exact ihn T' H' a' w' g' hk
        | exit i => exact hq
        | ret => exact hq
        | goto l => exact hq
        | panic ch => exact hq
        | outgrown => exact hq
    · rename_i l _
      exact shapes_sound l (fun T H K a w g h => ih blk T H K a w hok (fun e => hnr e) g h) g h.1 h.2
    · rename_i l _
      exact sem_sound l (fun T H K a w g h => ih blk T H K a w hok (fun e => hnr e) g h) g h.1 h.2
  | exit id => intro blk T H K a w _ _ g h; exact wpIn_exit ⟨T, H, h, g⟩
  | label l => intro blk T H K a w _ _ g h; exact wpIn_label ⟨T, H, h, g⟩
  | scope c ih => intro blk T H K a w hok hnr g h; exact wpIn_scope (ih blk T H K a w hok (fun e => hnr e) g h) (fun l a w h => h)
  | ret => intro blk T H K a w _ _ g h; exact wpIn_ret ⟨T, H, h, g⟩
  | rangeFunc gop ps asg bdy _ _ =>
    intro blk T H K a w hok hnr g h
    simp only [codeOk, Bool.and_eq_true] at hok
    simp only [exec] at h
    unfold evalK at h
    split at h
    rotate_left
    · exact h.elim
    rename_i gv hgv
    split at h
    rotate_left
    · exact h.elim
    rename_i f first cap
    have heg := evalO_den_func g.tm hgv
    split at h
    rotate_left
    · exact h.elim
    rename_i hd hget
    have hok' : HOk P f hd := hb.get hget
    have key : ∀ (w1 : World) (mark : List Deferred) (r : Loop) (fnn : FuncId) (dd : Nat), r = { state := .ready, pending := none, fn := fnn, tmps := a.tmps, params := ps, assign := asg, body := bdy, defers := dd } →
        Gam nt ds w0 fp T H { a with defers := mark ++ a.defers } w1 →
        (∀ l, hd (rex rs :: rs) (first ++ [.yl H.length l] ++ cap) (H ++ [⟨l, .loopc rs.length .ready none T nt ps.toList asg bdy, true⟩]) fun o H' =>
          match o with
          | .ret _ => endK H' H.length l (endGo K T)
          | .pan v => K (.pan v) T H') →
        ∃ (d : Deferred) (w₁' : World) (f' : FuncId) (args : Array Value) (w₂ : World),
          (resolve a.eval (rangeCall gop w1.heap.size) 0).run P (w1.alloc (.loop r)) = .ok d w₁' ∧
          (invoke d.target d.args).run P w₁' = .ok (.enter f' args) w₂ ∧
          CallsIn (FW (ro.map (·.2))) (0 - 1) P f' args w₂ (rangePost (FW (ro.map (·.2))) 0 P w1.heap.size (ExPost nt ds w0 fp K) { a with defers := mark ++ a.defers }) := by
      intro w1 mark r fnn dd hr g1 h1
      have h1 := h1 w1.heap.size
      have hx : Ext H (H ++ [⟨w1.heap.size, .loopc rs.length .ready none T nt ps.toList asg bdy, true⟩]) w1 (w1.alloc (.loop r)) :=
        ((HeapOk.enter g1.hh.hp).alloc (.loop r) (.loopc rs.length .ready none T nt ps.toList asg bdy) ⟨r, alloc_at _ _, by subst hr; exact ⟨rfl, rfl, g.tm, g.sz, rfl, rfl, rfl⟩⟩).toExt
      have g2 := g1.ext hx
      refine ⟨{ target := .fn (.func f) (denL cap).toArray, args := (denL first).toArray ++ #[.func (.yield w1.heap.size) #[] #[]] }, w1.alloc (.loop r), f, (denL (first ++ [.yl H.length w1.heap.size] ++ cap)).toArray, w1.alloc (.loop r), ?_, ?_, ?_⟩
      · have e1 : (#[Operand.const (.func (.yield w1.heap.size) #[] #[])] : Array Operand).map a.eval = #[.func (.yield w1.heap.size) #[] #[]] := by simp [Act.eval]
        simp only [resolve, rangeCall, heg, Deferred.ofValue, Sem.run_pure, e1]
      · simp only [invoke]
        have := hok'.enters ((denL first).toArray ++ #[.func (.yield w1.heap.size) #[] #[]] ++ (denL cap).toArray) (w1.alloc (.loop r))
        rw [this]
        congr 2
        simp [denL_append, denL, AV.den]
      · refine callsIn_FW ((hok'.calls (rex rs :: rs) ⟨hrex rs hrs, hrs⟩ _ _ _ _ g2.hh.hp h1).mono fun e w3 hq => ?_)
        cases e with
        | returned x =>
          obtain ⟨v, H', rfl, hk, hx3⟩ := hq
          have g3 := g2.ext hx3
          simp only [endK] at hk
          split at hk
          rotate_left
          · exact hk.elim
          rename_i m lvl st pend T' nt' ps' asg' bdy' hbk
          obtain ⟨rfl, hk⟩ := hk
          rw [nth_eq] at hbk
          obtain ⟨rr, hrr, hst, hpe, hx4⟩ := turnLoop (st' := .exhausted) (pend' := pend) g3.hh.hp hbk
          have g4 := g3.ext hx4
          have hend : st ≠ .busy → (Instr.endLoop w1.heap.size).run P w3 = .ok pend (w3.putO w1.heap.size (.loop { rr with state := .exhausted, pending := pend })) := by
            intro hne
            have hb' : (rr.state == LoopState.busy) = false := by rw [hst]; cases st <;> simp_all
            simp only [Instr.endLoop, Sem.run_bind, run_getLoop hrr, Result.andThen_ok, hb', Bool.false_eq_true, if_false, Sem.run_pure, run_setLoop hrr]
            rw [← hpe]
          have fin : st ≠ .busy → endGo K T pend (H'.set H.length ⟨w1.heap.size, .loopc lvl .exhausted pend T' nt' ps' asg' bdy', true⟩) → rangePost (FW (ro.map (·.2))) 0 P w1.heap.size (ExPost nt ds w0 fp K) { a with defers := mark ++ a.defers } (.returned v.den) w3 := by
            intro hne hk
            refine ⟨pend, _, hend hne, ?_⟩
            unfold endGo at hk
            split at hk
            · exact ⟨T, _, hk, g4⟩
            · exact wpIn_ret ⟨T, _, hk, g4⟩
            · exact wpIn_exit ⟨T, _, hk, g4⟩
            · exact hk.elim
          cases st with
          | busy => exact hk.elim
          | ready => exact fin (by simp) hk
          | done => exact fin (by simp) hk
          | exhausted => exact fin (by simp) hk
        | panicked ch =>
          obtain ⟨v, H', rfl, hk, hx3⟩ := hq
          exact ⟨v, T, H', rfl, hk, g2.ext hx3⟩
        | outgrown => exact hq.elim
    refine wpIn_rangeFunc fun fnn _ => ?_
    cases ro with
    | none =>
      simp only [roOk] at h
      have g0 : Gam nt ds w0 fp T H { a with defers := [markOf w.heap.size] ++ a.defers } (w.alloc (.deferred (some []))) := by
        have f0 := frm_alloc w (.deferred (some []))
        have g1 := g.ext (f0.toExt g.hh.hp)
        obtain ⟨rl, e1, es, e2, e3⟩ := g1.df
        refine ⟨g1.tm, g1.sz, ⟨w.heap.size :: rl, by simp [e1], fun e => absurd (hnr e) (by simp [noRF]), ?_, ?_⟩, g1.hh⟩
        · refine List.nodup_cons.2 ⟨fun hm => ?_, e2⟩
          obtain ⟨rl0, k1, ks, k2, k3⟩ := g.df
          have hle : rl0.map markOf = rl.map markOf := by
            have := k1.symm.trans e1
            exact List.append_cancel_right this
          have hmm : markOf w.heap.size ∈ rl0.map markOf := by rw [hle]; exact List.mem_map.2 ⟨_, hm, rfl⟩
          obtain ⟨x, hx, hxe⟩ := List.mem_map.1 hmm
          have hxe' : x = w.heap.size := by simpa [markOf] using hxe
          subst hxe'
          have := (k3 _ hx).1
          simp at this
        · intro r hr
          rcases List.mem_cons.1 hr with rfl | hr
          · refine ⟨alloc_at _ _, g.hh.fr.size, fun i b hb hn => ?_⟩
            have := Cont.holds_lt (g.hh.hp.all i b hb) _ hn
            omega
          · exact e3 r hr
      obtain ⟨d, w₁', f', args, w₂, k1, k2, k3⟩ := key (w.alloc (.deferred (some []))) [markOf w.heap.size] _ fnn w.heap.size rfl g0 h
      refine ⟨_, [markOf w.heap.size], _, d, w₁', f', args, w₂, ?_, k1, fun _ _ => trivial, k2, FW_depth _, k3⟩
      simp [Instr.enterLoop, FW, newObj, Sem.run, markOf]
    | some p =>
      obtain ⟨pid, pn⟩ := p
      simp only [roOk] at h
      split at h
      rotate_left
      · exact h.elim
      rename_i m lvl st pend T' nt' ps' asg' bdy' hbk
      obtain ⟨rfl, h⟩ := h
      rw [nth_eq] at hbk
      obtain ⟨rr, hrr, _⟩ := g.hh.hp.all _ _ hbk
      obtain ⟨d, w₁', f', args, w₂, k1, k2, k3⟩ := key w [] _ fnn rr.defers rfl g h
      refine ⟨_, [], _, d, w₁', f', args, w₂, ?_, k1, fun _ _ => trivial, k2, FW_depth _, k3⟩
      simp only [Instr.enterLoop, FW, Option.map_some, Sem.run_bind, run_getLoop hrr, Result.andThen_ok, Sem.run_pure]
      simp [newObj, Sem.run]
  | _ => intro blk T H K a w _ _ _ h; exact h.elim
end
theorem bindT_matches : ∀ (ps : List Nat) (vs : List AV) (T : TT) (tmps : Array Value), Matches T tmps → (∀ p ∈ ps, p < tmps.size) → ps.length = vs.length →
    Matches (bindT ps vs T) ((ps.zip (denL vs)).foldl (fun tmps (x : Nat × Value) => tmps.setIfInBounds x.1 x.2) tmps) ∧ ((ps.zip (denL vs)).foldl (fun tmps (x : Nat × Value) => tmps.setIfInBounds x.1 x.2) tmps).size = tmps.size
  | [], [], T, tmps, h, _, _ => ⟨h, rfl⟩
  | p :: ps, v :: vs, T, tmps, h, hp, hl => by
    simp only [bindT, denL, List.zip_cons_cons, List.foldl_cons]
    have h1 : Matches ((p, v) :: T) (tmps.setIfInBounds p v.den) := by
      have := Matches.put (a := { tmps := tmps, defers := [] }) h (d := some p) (fun x e => by cases e; exact hp p (by simp)) v
      exact this
    have := bindT_matches ps vs ((p, v) :: T) (tmps.setIfInBounds p v.den) h1 (fun q hq => by simp; exact hp q (by simp [hq])) (by simpa using hl)
    exact ⟨this.1, by rw [this.2]; simp⟩
  | [], _ :: _, _, _, _, _, h => by simp at h
  | _ :: _, [], _, _, _, _, h => by simp at h
theorem roundX_ok {P : Program} {tab : Tab} {ex : Nat → Option (Nat × Nat) → Code → TT → HH → (Ex → TT → HH → Prop) → Prop}
    (hex : ∀ (nt : Nat) (w0 : World) (fp : HH) (id num : Nat) (c : Code) (T : TT) (H : HH) (K : Ex → TT → HH → Prop) (a : Act) (w : World), codeOk tab nt c = true → Gam nt DS.nil w0 fp T H a w → ex nt (some (id, num)) c T H K → c.wpIn (FW (some num)) 0 P (ExPost nt DS.nil w0 fp K) a w) :
    ReOk P (roundX tab ex) := by
  intro T nt ps asg bdy args id num H K w lvl pend hh hbk h r hr hl
  unfold roundX at h
  obtain ⟨hck, h⟩ := ck_spec h
  simp only [Bool.and_eq_true] at hck
  obtain ⟨⟨⟨h1, h2⟩, h3⟩, h4⟩ := hck
  have h1 := Nat.eq_of_beq_eq_true h1
  have hps : ∀ p ∈ ps, p < nt := fun p hp => by
    have := List.all_eq_true.1 h2 p hp
    simpa [Nat.blt_eq] using this
  refine ⟨by rw [← Array.length_toList, hl.ps, h1], ?_⟩
  have hfold : (r.params.zip (denL args).toArray).foldl (fun tmps (t, a) => tmps.setIfInBounds t a) r.tmps = (ps.zip (denL args)).foldl (fun tmps (x : Nat × Value) => tmps.setIfInBounds x.1 x.2) r.tmps := by
    rw [← Array.foldl_toList, Array.toList_zip, hl.ps]
  rw [hfold]
  obtain ⟨hm, hsz⟩ := bindT_matches ps args T r.tmps hl.tm (fun p hp => by rw [hl.sz]; exact hps p hp) h1
  refine roundIn_of_wpIn trivial ?_
  rw [hl.asg, hl.bdy]
  have g0 : Gam nt DS.nil w H (bindT ps args T) H { tmps := (ps.zip (denL args)).foldl (fun tmps (x : Nat × Value) => tmps.setIfInBounds x.1 x.2) r.tmps, defers := [] } w :=
    ⟨hm, by rw [hsz, hl.sz], ⟨[], rfl, fun _ => rfl, List.nodup_nil, fun r hr => by simp at hr⟩, HeapOk.enter hh⟩
  refine wpIn_mono (hex nt w H id num asg _ H _ _ w h3 g0 h) ?_
  intro e a1 w1 hq
  cases e with
  | normal =>
    obtain ⟨T1, H1, hk, g1⟩ := hq
    obtain ⟨lvl1, st1, pend1, T1', nt1, ps1, asg1, bdy1, st1', pend1', hbk1, hf1, hk⟩ := setSt_spec hk
    cases st1 with
    | ready =>
      simp only [Option.some.injEq, Prod.mk.injEq] at hf1
      obtain ⟨rfl, rfl⟩ := hf1
      obtain ⟨rr, hrr, hst, hpe, hx⟩ := turnLoop (st' := .busy) (pend' := pend1) g1.hh.hp hbk1
      have g2 := g1.ext hx
      refine ⟨w1.putO num (.loop { rr with state := .busy, pending := pend1 }), ?_, ?_⟩
      · simp only [Instr.beginRound, Sem.run_bind, run_getLoop hrr, Result.andThen_ok, run_setLoop hrr, hst, Sem.run_pure]
        rw [← hpe]
      refine wpIn_mono (hex nt w H id num bdy _ _ _ _ _ h4 g2 hk) ?_
      intro e a2 w2 hq
      have fin : ∀ (jump : Option Code) (T3 : TT) (H3 : HH), Gam nt DS.nil w H T3 H3 a2 w2 →
          (setSt H3 id num (fun _ _ => some ((if jump.isNone then .ready else .done), jump)) fun H4 => K (.ret (.v (.bool jump.isNone))) H4) →
          ∃ v w', (Instr.endRound num jump).run P w2 = .ok v w' ∧ OutOk K H w (.returned v) w' := by
        intro jump T3 H3 g3 hk
        obtain ⟨lvl3, st3, pend3, T3', nt3, ps3, asg3, bdy3, st3', pend3', hbk3, hf3, hk⟩ := setSt_spec hk
        simp only [Option.some.injEq, Prod.mk.injEq] at hf3
        obtain ⟨rfl, rfl⟩ := hf3
        obtain ⟨r3, hr3, _, _, hx3⟩ := turnLoop (st' := if jump.isNone then .ready else .done) (pend' := jump) g3.hh.hp hbk3
        refine ⟨.bool jump.isNone, w2.putO num (.loop { r3 with state := if jump.isNone then .ready else .done, pending := jump }), ?_, _, _, rfl, hk, ?_⟩
        · simp only [Instr.endRound, Sem.run_bind, run_getLoop hr3, Result.andThen_ok, run_setLoop hr3, Sem.run_pure]
        · exact (g3.hh.ext hx3).toExt
      cases e with
      | normal =>
        obtain ⟨T3, H3, hk, g3⟩ := hq
        exact fin none T3 H3 g3 hk
      | exit i =>
        obtain ⟨T3, H3, hk, g3⟩ := hq
        exact fin (some (.exit i)) T3 H3 g3 hk
      | ret =>
        obtain ⟨T3, H3, hk, g3⟩ := hq
        exact fin (some .ret) T3 H3 g3 hk
      | goto l => exact hq.elim
      | panic ch => obtain ⟨_, _, _, _, hk, _⟩ := hq; exact hk.elim
      | outgrown => exact hq.elim
    | busy => cases hf1
    | done => cases hf1
    | exhausted => cases hf1
  | exit i => obtain ⟨_, _, hk, _⟩ := hq; exact hk.elim
  | ret => obtain ⟨_, _, hk, _⟩ := hq; exact hk.elim
  | goto l => exact hq.elim
  | panic ch => obtain ⟨_, _, _, _, hk, _⟩ := hq; exact hk.elim
  | outgrown => exact hq.elim
theorem execN_sound {P : Program} {tab : Tab} {tbl : Tbl} (ht : TabOk P tab) (hb : TblOk P tbl) (hmix : P.follows .mixedOrders = true) (inv : Inv) : ∀ (k nt : Nat) (ds : DS) (w0 : World) (fp : HH) (rs : RS), RsOk P rs → ∀ (ro : Option (Nat × Nat))
    (c : Code) (blk : Nat) (T : TT) (H : HH) (K : Ex → TT → HH → Prop) (a : Act) (w : World), codeOk tab nt c = true → (ds.s = true → noRF c = true) → Gam nt ds w0 fp T H a w → execN tab tbl inv k nt rs ro blk c T H K → c.wpIn (FW (ro.map (·.2))) 0 P (ExPost nt ds w0 fp K) a w
  | 0, nt, ds, w0, fp, rs, hrs, ro, c, blk, T, H, K, a, w, hok, hnr, g, h => exec_sound ht hb hmix inv (fun _ _ _ _ _ _ _ _ _ _ _ _ _ _ _ _ _ h => h.elim) hrs ro c blk T H K a w hok hnr g h
  | k + 1, nt, ds, w0, fp, rs, hrs, ro, c, blk, T, H, K, a, w, hok, hnr, g, h =>
    exec_sound ht hb hmix inv (fun rs' hrs' => roundX_ok fun nt' w0' fp' id num c' T' H' K' a' w' hok' g' h' => execN_sound ht hb hmix inv k nt' DS.nil w0' fp' rs' hrs' (some (id, num)) c' 0 T' H' K' a' w' hok' (fun e => by cases e) g' h') hrs ro c blk T H K a w hok hnr g h
def resK (tab : Tab) (T : TT) (H : HH) : List ResultVar → (List AV → Prop) → Prop
  | [], K => K []
  | .tmp t :: l, K => (match T.get t with | some v => resK tab T H l fun vs => K (v :: vs) | none => False)
  | .cell t ty :: l, K => (match T.get t with | some p => loadK tab H ty p fun v => resK tab T H l fun vs => K (v :: vs) | none => False)
def resV : List AV → AV
  | [v] => v
  | l => .tup l
def rdR (tmps : Array Value) : ResultVar → Sem Value
  | .tmp t => pure (tmps.getD t undef)
  | .cell a t => do loadVar t (← asAddr (tmps.getD a undef))
theorem results_eq (fn : Func) (tmps : Array Value) : results fn tmps = (do let vs ← fn.results.mapM (rdR tmps); pure (if h : vs.size = 1 then vs[0] else .tuple vs)) := by
  unfold results
  congr 1
theorem resK_sound {P : Program} {tab : Tab} (ht : TabOk P tab) {T : TT} {H : HH} {a : Act} {w : World} (hm : Matches T a.tmps) (hh : HoldsH H w) : ∀ {l : List ResultVar} {K : List AV → Prop}, resK tab T H l K →
    ∃ vs, K vs ∧ (l.mapM (rdR a.tmps)).run P w = .ok (denL vs) w
  | [], K, h => ⟨[], h, rfl⟩
  | .tmp t :: l, K, h => by
    simp only [resK] at h
    split at h
    · rename_i v hv
      obtain ⟨vs, hk, hr⟩ := resK_sound ht hm hh h
      refine ⟨v :: vs, hk, ?_⟩
      have h1 : (rdR a.tmps (.tmp t)).run P w = .ok v.den w := by simp only [rdR, hm t v hv, Sem.run_pure]
      rw [List.mapM_cons]
      simp only [Sem.run_bind, Sem.run_pure, Result.andThen_ok, hr, h1, denL]
    · exact h.elim
  | .cell t ty :: l, K, h => by
    simp only [resK] at h
    split at h
    · rename_i p hp
      obtain ⟨v, hv, hl⟩ := loadK_sound ht hh h
      obtain ⟨vs, hk, hr⟩ := resK_sound ht hm hh hv
      refine ⟨v :: vs, hk, ?_⟩
      have hpd := hm t p hp
      have : ∃ x, p.den = .pointer (some x) := by
        unfold loadK at h
        split at h
        · exact ⟨_, rfl⟩
        · exact ⟨_, rfl⟩
        · exact ⟨_, rfl⟩
        · exact ⟨_, rfl⟩
        · exact h.elim
      obtain ⟨x, hx⟩ := this
      simp only [Instr.loadAt, hx, Instr.sureAddr, Sem.run_bind, Sem.run_pure, Result.andThen_ok] at hl
      have h1 : (rdR a.tmps (.cell t ty)).run P w = .ok v.den w := by simp only [rdR, hpd, hx, asAddr, Sem.run_bind, Sem.run_pure, Result.andThen_ok, hl]
      rw [List.mapM_cons]
      simp only [Sem.run_bind, Sem.run_pure, Result.andThen_ok, hr, h1, denL]
    · exact h.elim
theorem results_run {P : Program} {tab : Tab} (ht : TabOk P tab) {T : TT} {H : HH} {a : Act} {w : World} (hm : Matches T a.tmps) (hh : HoldsH H w) {fn : Func} {K : AV → Prop} (h : resK tab T H fn.results.toList fun vs => K (resV vs)) :
    ∃ v, K v ∧ (results fn a.tmps).run P w = .ok v.den w := by
  obtain ⟨vs, hk, hr⟩ := resK_sound ht hm hh h
  refine ⟨resV vs, hk, ?_⟩
  rw [results_eq, Array.mapM_eq_mapM_toList]
  simp only [Sem.run_bind, Sem.run_map, hr, Result.andThen_ok, Sem.run_pure]
  congr 1
  match vs with
  | [] => simp [resV, denL, AV.den]
  | [v] => simp [resV, denL]
  | v :: u :: vs => simp [resV, denL, AV.den]
def argsT : List AV → Nat → TT
  | [], _ => []
  | v :: l, k => (k, v) :: argsT l (k + 1)
theorem argsT_get : ∀ (l : List AV) (k t : Nat) (v : AV), (argsT l k).get t = some v → k ≤ t ∧ l[t - k]? = some v
  | [], _, _, _, h => by simp [argsT, TT.get] at h
  | x :: l, k, t, v, h => by
    simp only [argsT, TT.get] at h
    split at h
    · rename_i e; subst e; cases h; exact ⟨Nat.le_refl _, by simp⟩
    · rename_i e
      obtain ⟨h1, h2⟩ := argsT_get l (k + 1) t v h
      refine ⟨by omega, ?_⟩
      obtain ⟨d, rfl⟩ : ∃ d, t = k + 1 + d := ⟨t - (k + 1), by omega⟩
      rw [show k + 1 + d - k = d + 1 by omega, List.getElem?_cons_succ]
      rw [show k + 1 + d - (k + 1) = d by omega] at h2
      exact h2
def post (fn : Func) (tab : Tab) (R : HK) (e : Ex) (T : TT) (H : HH) : Prop :=
  match e with
  | .exit _ => False
  | .pan v => R (.pan v) H
  | _ => resK tab T H fn.results.toList fun vs => R (.ret (resV vs)) H
def retK (R : AV → HH → Prop) : HK := fun o H =>
  match o with
  | .ret v => R v H
  | .pan _ => False
theorem nodup_cons' {r : Nat} {rs : List Nat} (h : (r :: rs).Nodup) : r ∉ rs ∧ rs.Nodup := List.nodup_cons.1 h
theorem leavesM {P : Program} {fn : Func} {tmps : Array Value} {R : Ending → World → Prop} {w0 : World} {fp H : HH} (u : FrameMode) (hu : u ≠ .run) : ∀ (rs : List Nat) (w : World), rs.Nodup → (∀ r ∈ rs, w.heap[r]? = some (.deferred (some [])) ∧ w0.heap.size ≤ r ∧ ∀ (i : Nat) (b : Blk), H[i]? = some b → r ∉ b.nums) →
    HeapOk w0 fp H w → (∀ w', HeapOk w0 fp H w' → LeavesInM (FW none) 0 P fn tmps R [] u w') → LeavesInM (FW none) 0 P fn tmps R (rs.map markOf) u w
  | [], w, _, _, hh, h => h w hh
  | r :: rs, w, hn, hr, hh, h => by
    obtain ⟨hnr, hn⟩ := nodup_cons' hn
    obtain ⟨h1, h2, h3⟩ := hr r (by simp)
    have hlt : r < w.heap.size := (Array.getElem?_eq_some_iff.1 h1).1
    refine ⟨hu, .inl ⟨r, w.putO r (.deferred none), rfl, ?_, ?_⟩⟩
    · simp [Instr.takeDeferred, getObj, Sem.run, h1, setObj]; rfl
    · refine leavesM u hu rs _ hn (fun x hx => ?_) ?_ h
      · obtain ⟨k1, k2, k3⟩ := hr x (by simp [hx])
        exact ⟨by rw [putObj_ne (by rintro rfl; exact hnr hx)]; exact k1, k2, k3⟩
      · refine ⟨⟨fun i b hb => Cont.holds_block (hh.hp.all i b hb) (fun k hk => putObj_ne (by rintro rfl; exact h3 i b hb hk)), hh.hp.apart⟩, ⟨hh.fr.os, hh.fr.tape, hh.fr.output, ?_, fun k hk hf => ?_, hh.fr.dr⟩, hh.src⟩
        · rw [putObj_size]; exact hh.fr.size
        · rw [putObj_ne (by omega)]; exact hh.fr.block k hk hf
theorem calls_of_exec {P : Program} {tab : Tab} {tbl : Tbl} (ht : TabOk P tab) (hb : TblOk P tbl) (hmix : P.follows .mixedOrders = true) (inv : Inv) (k : Nat) {rs : RS} (hrs : RsOk P rs) {f : FuncId} {fn : Func} {c : Code} {args : List AV} {Hin : HH} {R : HK} (nt : Nat)
    (hf : P.funcs[f]? = some fn) (hc : fn.body = some c) (hn : fn.ntmps = nt) (hok : codeOk tab nt c = true) (ha : args.length ≤ nt)
    (h : execN tab tbl inv k nt rs none 0 c (argsT args 0) Hin (post fn tab R)) (w : World) (hw : HoldsH Hin w) : Calls P f (denL args).toArray w (OutOk R Hin w) := by
  have g : Gam nt DS.nil w Hin (argsT args 0) Hin { tmps := (denL args).toArray ++ Array.replicate (fn.ntmps - (denL args).toArray.size) undef, defers := [] } w := by
    refine ⟨fun t v hv => ?_, ?_, ⟨[], rfl, fun _ => rfl, List.nodup_nil, fun r hr => by simp at hr⟩, HeapOk.enter hw⟩
    · obtain ⟨_, h2⟩ := argsT_get args 0 t v hv
      simp only [Nat.sub_zero] at h2
      have h3 := denL_get h2
      have hlt : t < (denL args).length := by
        rcases Nat.lt_or_ge t (denL args).length with h | h
        · exact h
        · rw [List.getElem?_eq_none h] at h3; cases h3
      simp only []
      rw [Array.getD_eq_getD_getElem?, Array.getElem?_append, if_pos (by simpa using hlt)]
      simp [h3]
    · simp [hn]; omega
  refine (callsIn_wide (n := 0)).1 (callsIn_of_wp_marks hf hc trivial (wpIn_mono (execN_sound ht hb hmix inv k nt DS.nil w Hin rs hrs none c 0 _ _ _ _ w hok (fun e => by cases e) g h) ?_))
  intro e a' w' hq
  have fin : ∀ {T : TT} {H : HH}, (resK tab T H fn.results.toList fun vs => R (.ret (resV vs)) H) → Gam nt DS.nil w Hin T H a' w' → LeavesInM (FW none) 0 P fn a'.tmps (OutOk R Hin w) a'.defers .returning w' := by
    intro T H hk g'
    obtain ⟨rl, e1, _, e2, e3⟩ := g'.df
    rw [e1, show DS.nil.l = [] from rfl, List.append_nil]
    refine leavesM .returning (by simp) rl w' e2 e3 g'.hh (fun w2 hh2 => ?_)
    obtain ⟨v, hv, hr⟩ := results_run ht g'.tm hh2.hp (K := fun v => R (.ret v) H) hk
    exact ⟨v.den, hr, v, H, rfl, hv, hh2.toExt⟩
  cases e with
  | normal => obtain ⟨T, H, hk, g'⟩ := hq; exact fin hk g'
  | ret => obtain ⟨T, H, hk, g'⟩ := hq; exact fin hk g'
  | exit i => obtain ⟨T, H, hk, _⟩ := hq; exact hk.elim
  | goto l => exact hq.elim
  | panic ch =>
    obtain ⟨v, T, H, rfl, hk, g'⟩ := hq
    obtain ⟨rl, e1, _, e2, e3⟩ := g'.df
    show LeavesInM (FW none) 0 P fn a'.tmps (OutOk R Hin w) a'.defers (.panicking _) w'
    rw [e1, show DS.nil.l = [] from rfl, List.append_nil]
    exact leavesM _ (by simp) rl w' e2 e3 g'.hh (fun w2 hh2 => ⟨v, H, rfl, hk, hh2.toExt⟩)
  | outgrown => exact hq.elim
theorem enters_of {P : Program} {f : FuncId} {fn : Func} {c : Code} (hf : P.funcs[f]? = some fn) (hc : fn.body = some c) (hname : (fn.name == "runtime.NumGoroutine") = false) : Enters P f := fun as w => by
  unfold callFunc
  simp only [Sem.run_bind, run_program, Result.andThen_ok, hf, hname, hc, Bool.false_eq_true, if_false, Option.isNone, Sem.run_pure]
theorem lc_of_exec {P : Program} {tab : Tab} {tbl : Tbl} (ht : TabOk P tab) (hb : TblOk P tbl) (hmix : P.follows .mixedOrders = true) (inv : Inv) (k : Nat) {f : FuncId} {fn : Func} {c : Code} {args : List AV} {Hin : HH} {R : AV → HH → Prop} (nt : Nat)
    (hf : P.funcs[f]? = some fn) (hc : fn.body = some c) (hn : fn.ntmps = nt) (hname : (fn.name == "runtime.NumGoroutine") = false) (hok : codeOk tab nt c = true) (ha : args.length ≤ nt)
    (h : execN tab tbl inv k nt [] none 0 c (argsT args 0) Hin (post fn tab (retK R))) :
    LC P f args Hin R := by
  refine ⟨enters_of hf hc hname, fun w hw => (calls_of_exec (rs := []) ht hb hmix inv k trivial nt hf hc hn hok ha h w hw).mono fun e w' hq => ?_⟩
  cases e with
  | returned x => obtain ⟨v, H', rfl, hr, hx⟩ := hq; exact ⟨v, H', rfl, hr, hx⟩
  | panicked ch => obtain ⟨v, H', _, hr, _⟩ := hq; exact hr.elim
  | outgrown => exact hq.elim
abbrev body (f : Func) : Code := match f.body with | some c => c | none => .skip
def noinv : Inv := fun _ _ _ => .unroll 0
theorem eI {k : IntKind} {a b : Int} (h : a = b) : AV.v (.int k a) = AV.v (.int k b) := by rw [h]
theorem eB {a b : Bool} (h : a = b) : AV.v (.bool a) = AV.v (.bool b) := by rw [h]
theorem eS {a b : ByteArray} (h : a = b) : AV.v (.string a) = AV.v (.string b) := by rw [h]
end Go.Eng
