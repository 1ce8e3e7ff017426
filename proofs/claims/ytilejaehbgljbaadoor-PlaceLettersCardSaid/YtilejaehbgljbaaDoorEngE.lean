/- The engine, fifth part: code, and calls. -/
import Derived.Test.YtilejaehbgljbaaDoorEngF
import Derived.Deep.LoopGhost
set_option linter.unusedSimpArgs false
namespace Go.Eng
open Go

/-- The operations of a region, in the order of the text. -/
def execOps (tab : Tab) (tbl : Tbl) (ops : List Oper) : List Oper → TT → HH → (TT → HH → Prop) → Prop
  | [], T, H, K => K T H
  | o :: rest, T, H, K =>
    match o.guard with
    | none => opK tab tbl T H o.op fun v H' => execOps tab tbl ops rest (putT T o.dst v) H' K
    | some (j, want) =>
      match (nth ops j).bind (·.dst) with
      | some d =>
        match T.get d with
        | some (.v (.bool c)) =>
          br c
            (if want then opK tab tbl ((d, .v (.bool true)) :: T) H o.op fun v H' => execOps tab tbl ops rest (putT ((d, .v (.bool true)) :: T) o.dst v) H' K
             else execOps tab tbl ops rest (putT ((d, .v (.bool true)) :: T) o.dst (.v undef)) H K)
            (if want then execOps tab tbl ops rest (putT ((d, .v (.bool false)) :: T) o.dst (.v undef)) H K
             else opK tab tbl ((d, .v (.bool false)) :: T) H o.op fun v H' => execOps tab tbl ops rest (putT ((d, .v (.bool false)) :: T) o.dst v) H' K)
        | some (.v (.tuple _)) => execOps tab tbl ops rest (putT T o.dst (.v undef)) H K
        | _ => False
      | none => False

section
variable {P : Program} {tab : Tab} {tbl : Tbl} {nt : Nat} {ds : List Deferred} {w0 : World} {fp : HH} {Q : Exit → Act → World → Prop}

theorem execOps_sound (ht : TabOk P tab) (hb : TblOk P tbl) (ops : Array Oper) (hok : ops.toList.all (dstOk nt) = true) : ∀ (n k : Nat) (rest : List Oper), rest.length = n → ops.toList.drop k = rest → ∀ (T : TT) (H : HH) (K : TT → HH → Prop) (a : Act) (w : World),
    Gam nt ds w0 fp T H a w → execOps tab tbl ops.toList rest T H K → (∀ T' H' a' w', K T' H' → Gam nt ds w0 fp T' H' a' w' → Q .normal a' w') → wpOps P ops Q (List.range' k n) a w := by
  intro n
  induction n with
  | zero =>
    intro k rest hl hdrop T H K a w g h hq
    have : rest = [] := List.eq_nil_of_length_eq_zero hl
    subst this
    exact hq _ _ _ _ h g
  | succ n ih =>
    intro k rest hl hdrop T H K a w g h hq
    cases rest with
    | nil => simp at hl
    | cons o rest =>
      have hk : ops[k]? = some o := by
        have : (ops.toList.drop k)[0]? = some o := by rw [hdrop]; rfl
        rw [List.getElem?_drop] at this
        simpa using this
      have hdrop' : ops.toList.drop (k + 1) = rest := by
        have := congrArg (List.drop 1) hdrop
        rw [List.drop_drop] at this
        simpa using this
      have hmem : o ∈ ops.toList := by
        have := List.mem_of_mem_drop (i := k) (l := ops.toList) (a := o) (by rw [hdrop]; simp)
        exact this
      have hdst : ∀ x, o.dst = some x → x < nt := by
        intro x hx
        have := List.all_eq_true.1 hok o hmem
        simp only [dstOk, hx] at this
        exact of_decide_eq_true this
      simp only [List.range'_succ, wpOps, hk]
      have hlen : rest.length = n := by simpa using hl
      -- carried out
      have hrun : ∀ (T1 : TT) (w1 : World), Gam nt ds w0 fp T1 H a w1 → (opK tab tbl T1 H o.op fun v H' => execOps tab tbl ops.toList rest (putT T1 o.dst v) H' K) → o.wp P a w1 (wpOps P ops Q (List.range' (k + 1) n)) Q := by
        intro T1 w1 g1 h1
        refine Oper.wp_mono (fun a' w' hp => ?_) (opK_sound (Q := Q) ht hb g1.tm g1.hh h1)
        obtain ⟨v, H', hk', hh', rfl, _⟩ := hp
        exact ih (k + 1) rest hlen hdrop' _ _ K _ _ (g1.put hdst v hh') hk' hq
      -- passed over
      have hskip : ∀ (T1 : TT), Gam nt ds w0 fp T1 H a w → execOps tab tbl ops.toList rest (putT T1 o.dst (.v undef)) H K → wpOps P ops Q (List.range' (k + 1) n) (a.put o.dst undef) w := by
        intro T1 g1 h1
        exact ih (k + 1) rest hlen hdrop' _ _ K _ _ (g1.put hdst (.v undef) g1.hh) h1 hq
      simp only [execOps] at h
      split at h
      · rename_i hg
        have hw : Region.wanted o (yielded ops a.tmps) = true := by simp [Region.wanted, hg]
        rw [if_pos hw]
        exact .inl (hrun T w g h)
      · rename_i j want hg
        split at h
        · rename_i d hd
          split at h
          · rename_i c hc
            have hdd : ∃ oj, ops[j]? = some oj ∧ oj.dst = some d := by
              cases hj : nth ops.toList j with
              | none => simp [hj] at hd
              | some oj => simp only [hj, Option.bind_some] at hd; rw [nth_eq] at hj; exact ⟨oj, by simpa using hj, hd⟩
            obtain ⟨oj, hj, hjd⟩ := hdd
            have hjm : oj ∈ ops.toList := List.mem_of_getElem? (i := j) (by simpa using hj)
            have hdnt : d < nt := by
              have := List.all_eq_true.1 hok oj hjm
              simp only [dstOk, hjd] at this
              exact of_decide_eq_true this
            have hval := g.tm d _ hc
            have hy : yielded ops a.tmps j = some c := by
              simp only [yielded, hj, Option.bind_some, hjd]
              rw [getD_some hval (by rw [g.sz]; exact hdnt)]
              rfl
            have hw : Region.wanted o (yielded ops a.tmps) = (c == want) := by
              simp only [Region.wanted, hg, hy]
              cases c <;> cases want <;> rfl
            rw [hw]
            cases c
            · have g1 : Gam nt ds w0 fp ((d, .v (.bool false)) :: T) H a w := ⟨g.tm.setB hc rfl, g.sz, g.df, g.hh⟩
              simp only [br_false] at h
              cases want
              · simp only [Bool.false_eq_true, if_false] at h
                simp only [beq_self_eq_true, if_true]
                exact .inl (hrun _ w g1 h)
              · simp only [if_true] at h
                exact hskip _ g1 h
            · have g1 : Gam nt ds w0 fp ((d, .v (.bool true)) :: T) H a w := ⟨g.tm.setB hc rfl, g.sz, g.df, g.hh⟩
              simp only [br_true] at h
              cases want
              · simp only [Bool.false_eq_true, if_false] at h
                exact hskip _ g1 h
              · simp only [if_true] at h
                simp only [beq_self_eq_true, if_true]
                exact .inl (hrun _ w g1 h)
          · rename_i c hc
            have hdd : ∃ oj, ops[j]? = some oj ∧ oj.dst = some d := by
              cases hj : nth ops.toList j with
              | none => simp [hj] at hd
              | some oj => simp only [hj, Option.bind_some] at hd; rw [nth_eq] at hj; exact ⟨oj, by simpa using hj, hd⟩
            obtain ⟨oj, hj, hjd⟩ := hdd
            have hjm : oj ∈ ops.toList := List.mem_of_getElem? (i := j) (by simpa using hj)
            have hdnt : d < nt := by
              have := List.all_eq_true.1 hok oj hjm
              simp only [dstOk, hjd] at this
              exact of_decide_eq_true this
            have hval := g.tm d _ hc
            have hy : yielded ops a.tmps j = none := by
              simp only [yielded, hj, Option.bind_some, hjd]
              rw [getD_some hval (by rw [g.sz]; exact hdnt)]
              rfl
            have hw : Region.wanted o (yielded ops a.tmps) = false := by
              simp only [Region.wanted, hg, hy]
              cases want <;> rfl
            rw [hw]
            exact hskip _ g h
          · exact h.elim
        · exact h.elim
end

inductive Ex where
  | norm
  | exit (id : Nat)
  | ret

def getEq (o : Option AV) (v : AV) : Prop :=
  match o with
  | some v' => v'.den = v.den
  | none => False

def LeT (T : TT) : TT → Prop
  | [] => True
  | (t, v) :: r => getEq (T.get t) v ∧ LeT T r

theorem LeT.get {T : TT} : ∀ {S : TT}, LeT T S → ∀ {t : Nat} {v : AV}, S.get t = some v → ∃ v', T.get t = some v' ∧ v'.den = v.den
  | [], _, _, _, h => by simp [TT.get] at h
  | (k, _) :: r, ⟨h1, h2⟩, t, _, h => by
    simp only [TT.get] at h
    split at h
    · rename_i e; subst e; cases h
      unfold getEq at h1
      split at h1
      · rename_i v' hv'; exact ⟨v', hv', h1⟩
      · exact h1.elim
    · exact LeT.get h2 h

/-- A block says as much as another. -/
def LeB (b c : Blk) : Prop := b.num = c.num ∧ (c.own = true → b.own = true) ∧ ∀ w, b.c.holds w b.num → c.c.holds w c.num
theorem LeB.refl (b : Blk) : LeB b b := ⟨rfl, id, fun _ h => h⟩

def LeBs : HH → HH → Prop
  | [], [] => True
  | b :: H, c :: H' => LeB b c ∧ LeBs H H'
  | _, _ => False
theorem LeBs.refl : ∀ H : HH, LeBs H H
  | [] => trivial
  | b :: H => ⟨LeB.refl b, LeBs.refl H⟩
theorem LeBs.get : ∀ {H H' : HH}, LeBs H H' → ∀ {i : Nat} {c : Blk}, H'[i]? = some c → ∃ b, H[i]? = some b ∧ LeB b c
  | [], [], _, i, c, h => by simp at h
  | b :: _, d :: _, ⟨h1, _⟩, 0, c, h => by simp at h; subst h; exact ⟨b, rfl, h1⟩
  | _ :: _, _ :: _, ⟨_, h2⟩, i + 1, c, h => by
    simp only [List.getElem?_cons_succ] at h
    obtain ⟨b', hb', hl⟩ := LeBs.get h2 h
    exact ⟨b', by simpa using hb', hl⟩
  | [], _ :: _, h, _, _, _ => h.elim
  | _ :: _, [], _, i, c, h => by simp at h

/-- Some of the known blocks, by their places. -/
def pickH (H : HH) : List Nat → HH
  | [] => []
  | i :: l => match nth H i with | some b => b :: pickH H l | none => pickH H l

theorem pickH_src {H : HH} : ∀ {l : List Nat} {i : Nat} {b : Blk}, (pickH H l)[i]? = some b → ∃ j, j ∈ l ∧ H[j]? = some b
  | [], i, b, h => by simp [pickH] at h
  | k :: l, i, b, h => by
    simp only [pickH] at h
    split at h
    · rename_i d hd
      rw [nth_eq] at hd
      cases i with
      | zero => simp at h; subst h; exact ⟨k, by simp, hd⟩
      | succ i =>
        simp only [List.getElem?_cons_succ] at h
        obtain ⟨j, hj, hb⟩ := pickH_src h
        exact ⟨j, by simp [hj], hb⟩
    · obtain ⟨j, hj, hb⟩ := pickH_src h
      exact ⟨j, by simp [hj], hb⟩

theorem pickH_apart {H : HH} (hap : ∀ (i j : Nat) (b c : Blk), H[i]? = some b → H[j]? = some c → i ≠ j → b.num ≠ c.num) : ∀ {l : List Nat}, l.Nodup → ∀ (i j : Nat) (b c : Blk), (pickH H l)[i]? = some b → (pickH H l)[j]? = some c → i ≠ j → b.num ≠ c.num
  | [], _, i, j, b, c, h, _, _ => by simp [pickH] at h
  | k :: l, hn, i, j, b, c, hi, hj, hij => by
    obtain ⟨hk, hn⟩ := List.nodup_cons.1 hn
    simp only [pickH] at hi hj
    split at hi
    · rename_i d hd
      rw [hd] at hj
      simp only [] at hj
      rw [nth_eq] at hd
      cases i with
      | zero =>
        cases j with
        | zero => exact absurd rfl hij
        | succ j =>
          simp at hi hj; subst hi
          obtain ⟨m, hm, hc⟩ := pickH_src hj
          exact hap k m _ _ hd hc (fun e => hk (e ▸ hm))
      | succ i =>
        cases j with
        | zero =>
          simp at hi hj; subst hj
          obtain ⟨m, hm, hc⟩ := pickH_src hi
          exact hap m k _ _ hc hd (fun e => hk (e ▸ hm))
        | succ j =>
          simp at hi hj
          exact pickH_apart hap hn i j b c hi hj (by omega)
    · rename_i hd
      rw [hd] at hj
      exact pickH_apart hap hn i j b c hi hj hij

def LeH (H H' : HH) : Prop := ∃ l : List Nat, l.Nodup ∧ LeBs (pickH H l) H'

theorem LeH.refl (H : HH) : LeH H H := by
  refine ⟨List.range H.length, List.nodup_range, ?_⟩
  have : ∀ (H : HH) (k n : Nat), k + n = H.length → pickH H (List.range' k n) = H.drop k := by
    intro H k n
    induction n generalizing k with
    | zero => intro h; rw [List.drop_eq_nil_of_le (by omega)]; rfl
    | succ n ih =>
      intro h
      have hk : k < H.length := by omega
      simp only [List.range'_succ, pickH, nth_eq, List.getElem?_eq_getElem hk]
      rw [ih (k + 1) (by omega), ← List.drop_eq_getElem_cons hk]
  rw [List.range_eq_range', this H 0 H.length (by omega)]
  exact LeBs.refl H

theorem HeapOk.le {w0 : World} {fp : HH} {H H' : HH} {w : World} (h : HeapOk w0 fp H w) (hl : LeH H H') : HeapOk w0 fp H' w := by
  obtain ⟨l, hn, hb⟩ := hl
  refine ⟨⟨fun i c hi => ?_, fun i j b c hi hj hij => ?_⟩, h.fr, fun i c hi => ?_⟩
  · obtain ⟨b, hb', _, _, h3⟩ := LeBs.get hb hi
    obtain ⟨j, _, hj⟩ := pickH_src hb'
    exact h3 w (h.hp.all j b hj)
  · obtain ⟨b', hb', h1, _, _⟩ := LeBs.get hb hi
    obtain ⟨c', hc', h2, _, _⟩ := LeBs.get hb hj
    rw [← h1, ← h2]
    exact pickH_apart h.hp.apart hn i j b' c' hb' hc' hij
  · obtain ⟨b, hb', h1, h2, _⟩ := LeBs.get hb hi
    obtain ⟨j, _, hj⟩ := pickH_src hb'
    rw [← h1]
    rcases h.src j b hj with ⟨k, d, hk, hd, hdo⟩ | hd
    · exact .inl ⟨k, d, hk, hd, fun o => hdo (h2 o)⟩
    · exact .inr hd

theorem Gam.le {nt : Nat} {ds : List Deferred} {w0 : World} {fp : HH} {T T' : TT} {H H' : HH} {a : Act} {w : World} (g : Gam nt ds w0 fp T H a w) (h1 : LeT T T') (h2 : LeH H H') : Gam nt ds w0 fp T' H' a w :=
  ⟨fun t _ hv => let ⟨v', hv', e⟩ := h1.get hv; (g.tm t v' hv').trans e, g.sz, g.df, g.hh.le h2⟩

/-- What is told of a loop: its heads are 'St x' for some x with 'I x', and each round lowers 'μ x'; or it goes round a few times. -/
inductive LI where
  | inv (X : Type) (St : X → TT × HH) (I : X → Prop) (μ : X → Nat)
  | unroll (n : Nat)

def unrollK (body : TT → HH → (Ex → TT → HH → Prop) → Prop) : Nat → TT → HH → (Ex → TT → HH → Prop) → Prop
  | 0, _, _, _ => False
  | n + 1, T, H, K => body T H fun e T' H' =>
    match e with
    | .norm => unrollK body n T' H' K
    | e => K e T' H'

def loopK (li : LI) (body : TT → HH → (Ex → TT → HH → Prop) → Prop) (T : TT) (H : HH) (K : Ex → TT → HH → Prop) : Prop :=
  match li with
  | .inv X St I μ => (∃ x : X, I x ∧ LeT T (St x).1 ∧ LeH H (St x).2) ∧
    ∀ x, I x → body (St x).1 (St x).2 fun e T' H' =>
      match e with
      | .norm => ∃ x', I x' ∧ μ x' < μ x ∧ LeT T' (St x').1 ∧ LeH H' (St x').2
      | e => K e T' H'
  | .unroll n => unrollK body n T H K

def exec (tab : Tab) (tbl : Tbl) (inv : Nat → LI) (blk : Nat) : Code → TT → HH → (Ex → TT → HH → Prop) → Prop
  | .skip, T, H, K => K .norm T H
  | .region _ ops draw, T, H, K =>
    match draw with
    | false => execOps tab tbl ops.toList ops.toList T H (K .norm)
    | true => execPlan tab tbl ops.toList ops.toList.length [] T H [] (K .norm)
  | .seq a b, T, H, K => exec tab tbl inv blk a T H fun e T' H' =>
    match e with
    | .norm => exec tab tbl inv blk b T' H' K
    | e => K e T' H'
  | .cond c x y, T, H, K =>
    match c with
    | .tmp d =>
      match T.get d with
      | some (.v (.bool t)) => br t (exec tab tbl inv blk x ((d, .v (.bool true)) :: T) H K) (exec tab tbl inv blk y ((d, .v (.bool false)) :: T) H K)
      | _ => False
    | _ => False
  | .block id c, T, H, K => exec tab tbl inv id c T H fun e T' H' =>
    match e with
    | .exit i => (match Nat.beq i id with | true => K .norm T' H' | false => K (.exit i) T' H')
    | e => K e T' H'
  | .loop c, T, H, K => loopK (inv blk) (exec tab tbl inv blk c) T H K
  | .exit id, T, H, K => K (.exit id) T H
  | .ret, T, H, K => K .ret T H
  | _, _, _, _ => False

def codeOk (tab : Tab) (nt : Nat) : Code → Bool
  | .region _ ops draw => ops.toList.all (dstOk nt) && (!draw || (Region.noSelect ops && planOk tab ops ops.toList.length [] (Array.replicate ops.size false)))
  | .seq a b => codeOk tab nt a && codeOk tab nt b
  | .cond _ x y => codeOk tab nt x && codeOk tab nt y
  | .block _ c => codeOk tab nt c
  | .loop c => codeOk tab nt c
  | _ => true

def ExPost (nt : Nat) (ds : List Deferred) (w0 : World) (fp : HH) (K : Ex → TT → HH → Prop) : Exit → Act → World → Prop
  | .normal, a, w => ∃ T H, K .norm T H ∧ Gam nt ds w0 fp T H a w
  | .exit id, a, w => ∃ T H, K (.exit id) T H ∧ Gam nt ds w0 fp T H a w
  | .ret, a, w => ∃ T H, K .ret T H ∧ Gam nt ds w0 fp T H a w
  | _, _, _ => False

section
variable {P : Program} {tab : Tab} {tbl : Tbl} {nt : Nat} {ds : List Deferred} {w0 : World} {fp : HH}

theorem exec_sound (ht : TabOk P tab) (hb : TblOk P tbl) (hmix : P.follows .mixedOrders = true) (inv : Nat → LI) : ∀ (c : Code) (blk : Nat) (T : TT) (H : HH) (K : Ex → TT → HH → Prop) (a : Act) (w : World), codeOk tab nt c = true → Gam nt ds w0 fp T H a w → exec tab tbl inv blk c T H K → c.wp P (ExPost nt ds w0 fp K) a w := by
  intro c
  induction c with
  | skip => intro blk T H K a w _ g h; exact wp_skip ⟨T, H, h, g⟩
  | region id ops draw =>
    intro blk T H K a w hok g h
    simp only [codeOk, Bool.and_eq_true] at hok
    obtain ⟨hok, hdr⟩ := hok
    cases draw with
    | false =>
      refine wp_region ?_
      rw [List.range_eq_range']
      have hl : ops.toList.length = ops.size := by simp
      exact execOps_sound (Q := ExPost nt ds w0 fp K) ht hb ops hok ops.size 0 ops.toList hl (by simp) T H (K .norm) a w g h (fun T' H' a' w' hk g' => ⟨T', H', hk, g'⟩)
    | true =>
      simp only [Bool.not_true, Bool.false_or, Bool.and_eq_true, beq_iff_eq] at hdr
      obtain ⟨hns, hpo⟩ := hdr
      refine wp_region_any hmix (wpAnyX_any (prs := prsOf ops []) _ _ _ _ ?_)
      have hl : ops.toList.length = ops.size := by simp
      rw [← hl]
      rw [← hl] at hpo
      exact execPlan_sound (Q := ExPost nt ds w0 fp K) ht hb ops hok hns (fun _ _ _ _ _ h => h) ops.toList.length [] _ T H [] (K .norm) a _ hpo ⟨g.tm, g.sz, g.df, g.hh.same ⟨rfl, rfl, rfl, rfl⟩⟩ h (fun T' H' a' w' hk g' => ⟨T', H', hk, g'⟩)
  | seq x y ihx ihy =>
    intro blk T H K a w hok g h
    simp only [codeOk, Bool.and_eq_true] at hok
    refine wp_seq (wp_mono (ihx blk T H _ a w hok.1 g h) ?_)
    intro e a' w' hq
    cases e with
    | normal => obtain ⟨T', H', hk, g'⟩ := hq; exact ihy blk T' H' K a' w' hok.2 g' hk
    | exit i => exact hq
    | ret => exact hq
    | goto l => exact hq
    | panic ch => exact hq
    | outgrown => exact hq
  | cond c x y ihx ihy =>
    intro blk T H K a w hok g h
    simp only [codeOk, Bool.and_eq_true] at hok
    simp only [exec] at h
    split at h
    · rename_i d
      split at h
      · rename_i t hd
        have he : a.eval (.tmp d) = .bool t := g.tm d _ hd
        refine wp_cond_split he (fun e => ?_) (fun e => ?_)
        · subst e; exact ihx blk _ H K a w hok.1 ⟨g.tm.setB hd rfl, g.sz, g.df, g.hh⟩ h
        · subst e; exact ihy blk _ H K a w hok.2 ⟨g.tm.setB hd rfl, g.sz, g.df, g.hh⟩ h
      · exact h.elim
    · exact h.elim
  | block id c ih =>
    intro blk T H K a w hok g h
    refine wp_block (wp_mono (ih id T H _ a w hok g h) ?_)
    intro e a' w' hq
    cases e with
    | exit i =>
      obtain ⟨T', H', hk, g'⟩ := hq
      simp only [Exit.inBlock]
      simp only [] at hk
      by_cases hi : i = id
      · rw [if_pos hi]
        rw [show Nat.beq i id = true from by rw [hi]; exact Nat.beq_refl id] at hk
        exact ⟨T', H', hk, g'⟩
      · rw [if_neg hi]
        rw [show Nat.beq i id = false from by rw [Bool.eq_false_iff]; exact fun e => hi (Nat.eq_of_beq_eq_true e)] at hk
        exact ⟨T', H', hk, g'⟩
    | normal => exact hq
    | ret => exact hq
    | goto l => exact hq
    | panic ch => exact hq
    | outgrown => exact hq
  | loop c ih =>
    intro blk T H K a w hok g h
    simp only [exec] at h
    unfold loopK at h
    split at h
    · rename_i X St I μ _
      obtain ⟨⟨x0, hI0, hT0, hH0⟩, hround⟩ := h
      refine wp_loop_ghost (fun n a w => ∃ x, μ x = n ∧ I x ∧ Gam nt ds w0 fp (St x).1 (St x).2 a w) (μ x0) ⟨x0, rfl, hI0, g.le hT0 hH0⟩ ?_
      rintro n a1 w1 ⟨x, rfl, hI, g1⟩
      refine wp_mono (ih blk _ _ _ a1 w1 hok g1 (hround x hI)) ?_
      intro e a' w' hq
      cases e with
      | normal =>
        obtain ⟨T', H', ⟨x', hI', hlt, hT', hH'⟩, g'⟩ := hq
        exact ⟨μ x', hlt, x', rfl, hI', g'.le hT' hH'⟩
      | exit i => exact hq
      | ret => exact hq
      | goto l => exact hq
      | panic ch => exact hq
      | outgrown => exact hq
    · rename_i n hli
      clear hli
      refine wp_loop_rounds n ?_
      induction n generalizing T H a w with
      | zero => exact h.elim
      | succ n ihn =>
        rw [rounds_succ]
        refine wp_mono (ih blk T H _ a w hok g h) ?_
        intro e a' w' hq
        cases e with
        | normal => obtain ⟨T', H', hk, g'⟩ := hq; exact ihn T' H' a' w' g' hk
        | exit i => exact hq
        | ret => exact hq
        | goto l => exact hq
        | panic ch => exact hq
        | outgrown => exact hq
  | exit id => intro blk T H K a w _ g h; exact wp_exit ⟨T, H, h, g⟩
  | ret => intro blk T H K a w _ g h; exact wp_ret ⟨T, H, h, g⟩
  | _ => intro blk T H K a w _ _ h; exact h.elim
end

/-- The results of a function, as values. -/
def resK (tab : Tab) (T : TT) (H : HH) : List ResultVar → (List AV → Prop) → Prop
  | [], K => K []
  | .tmp t :: l, K => (match T.get t with | some v => resK tab T H l fun vs => K (v :: vs) | none => False)
  | .cell t ty :: l, K => (match T.get t with | some p => loadK tab H ty p fun v => resK tab T H l fun vs => K (v :: vs) | none => False)

def resV : List AV → AV
  | [v] => v
  | l => .tup l

def rdR (tmps : Array Value) : ResultVar → Sem Value
  | .tmp t => pure (tmps.getD t undef)
  | .cell a t => do loadVar t (← asAddr (tmps.getD a undef))

theorem results_eq (fn : Func) (tmps : Array Value) : results fn tmps = (do let vs ← fn.results.mapM (rdR tmps); pure (if h : vs.size = 1 then vs[0] else .tuple vs)) := by
  unfold results
  congr 1

theorem resK_sound {P : Program} {tab : Tab} (ht : TabOk P tab) {T : TT} {H : HH} {a : Act} {w : World} (hm : Matches T a.tmps) (hh : HoldsH H w) : ∀ {l : List ResultVar} {K : List AV → Prop}, resK tab T H l K →
    ∃ vs, K vs ∧ (l.mapM (rdR a.tmps)).run P w = .ok (denL vs) w
  | [], K, h => ⟨[], h, rfl⟩
  | .tmp t :: l, K, h => by
    simp only [resK] at h
    split at h
    · rename_i v hv
      obtain ⟨vs, hk, hr⟩ := resK_sound ht hm hh h
      refine ⟨v :: vs, hk, ?_⟩
      have h1 : (rdR a.tmps (.tmp t)).run P w = .ok v.den w := by simp only [rdR, hm t v hv, Sem.run_pure]
      rw [List.mapM_cons]
      simp only [Sem.run_bind, Sem.run_pure, Result.andThen_ok, hr, h1, denL]
    · exact h.elim
  | .cell t ty :: l, K, h => by
    simp only [resK] at h
    split at h
    · rename_i p hp
      obtain ⟨v, hv, hl⟩ := loadK_sound ht hh h
      obtain ⟨vs, hk, hr⟩ := resK_sound ht hm hh hv
      refine ⟨v :: vs, hk, ?_⟩
      have hpd := hm t p hp
      have : ∃ x, p.den = .pointer (some x) := by
        unfold loadK at h
        split at h
        · exact ⟨_, rfl⟩
        · exact ⟨_, rfl⟩
        · exact h.elim
      obtain ⟨x, hx⟩ := this
      simp only [Instr.loadAt, hx, Instr.sureAddr, Sem.run_bind, Sem.run_pure, Result.andThen_ok] at hl
      have h1 : (rdR a.tmps (.cell t ty)).run P w = .ok v.den w := by simp only [rdR, hpd, hx, asAddr, Sem.run_bind, Sem.run_pure, Result.andThen_ok, hl]
      rw [List.mapM_cons]
      simp only [Sem.run_bind, Sem.run_pure, Result.andThen_ok, hr, h1, denL]
    · exact h.elim

theorem results_run {P : Program} {tab : Tab} (ht : TabOk P tab) {T : TT} {H : HH} {a : Act} {w : World} (hm : Matches T a.tmps) (hh : HoldsH H w) {fn : Func} {K : AV → Prop} (h : resK tab T H fn.results.toList fun vs => K (resV vs)) :
    ∃ v, K v ∧ (results fn a.tmps).run P w = .ok v.den w := by
  obtain ⟨vs, hk, hr⟩ := resK_sound ht hm hh h
  refine ⟨resV vs, hk, ?_⟩
  rw [results_eq, Array.mapM_eq_mapM_toList]
  simp only [Sem.run_bind, Sem.run_map, hr, Result.andThen_ok, Sem.run_pure]
  congr 1
  match vs with
  | [] => simp [resV, denL, AV.den]
  | [v] => simp [resV, denL]
  | v :: u :: vs => simp [resV, denL, AV.den]

/-- The frame in which a function begins. -/
def argsT : List AV → Nat → TT
  | [], _ => []
  | v :: l, k => (k, v) :: argsT l (k + 1)

theorem argsT_get : ∀ (l : List AV) (k t : Nat) (v : AV), (argsT l k).get t = some v → k ≤ t ∧ l[t - k]? = some v
  | [], _, _, _, h => by simp [argsT, TT.get] at h
  | x :: l, k, t, v, h => by
    simp only [argsT, TT.get] at h
    split at h
    · rename_i e; subst e; cases h; exact ⟨Nat.le_refl _, by simp⟩
    · rename_i e
      obtain ⟨h1, h2⟩ := argsT_get l (k + 1) t v h
      refine ⟨by omega, ?_⟩
      obtain ⟨d, rfl⟩ : ∃ d, t = k + 1 + d := ⟨t - (k + 1), by omega⟩
      rw [show k + 1 + d - k = d + 1 by omega, List.getElem?_cons_succ]
      rw [show k + 1 + d - (k + 1) = d by omega] at h2
      exact h2

/-- What a function's end hands back. -/
def post (fn : Func) (tab : Tab) (R : AV → HH → Prop) (e : Ex) (T : TT) (H : HH) : Prop :=
  match e with
  | .exit _ => False
  | _ => resK tab T H fn.results.toList fun vs => R (resV vs) H

/-- The code of a function's body is carried out over known blocks: so is the call. -/
theorem lc_of_exec {P : Program} {tab : Tab} {tbl : Tbl} (ht : TabOk P tab) (hb : TblOk P tbl) (hmix : P.follows .mixedOrders = true) (inv : Nat → LI) {f : FuncId} {fn : Func} {c : Code} {args : List AV} {Hin : HH} {R : AV → HH → Prop} (nt : Nat)
    (hf : P.funcs[f]? = some fn) (hc : fn.body = some c) (hn : fn.ntmps = nt) (hname : (fn.name == "runtime.NumGoroutine") = false) (hok : codeOk tab nt c = true) (ha : args.length ≤ nt)
    (h : exec tab tbl inv 0 c (argsT args 0) Hin (post fn tab R)) :
    LC P f args Hin R := by
  refine ⟨fun as w => ?_, fun w hw => ?_⟩
  · unfold callFunc
    simp only [Sem.run_bind, run_program, Result.andThen_ok, hf, hname, hc, Bool.false_eq_true, if_false, Option.isNone, Sem.run_pure]
  · refine calls_of_wp hf hc ?_
    have g : Gam nt [] w Hin (argsT args 0) Hin { tmps := (denL args).toArray ++ Array.replicate (fn.ntmps - (denL args).toArray.size) undef, defers := [] } w := by
      refine ⟨fun t v hv => ?_, ?_, rfl, HeapOk.enter hw⟩
      · obtain ⟨_, h2⟩ := argsT_get args 0 t v hv
        simp only [Nat.sub_zero] at h2
        have h3 := denL_get h2
        have hlt : t < (denL args).length := by
          rcases Nat.lt_or_ge t (denL args).length with h | h
          · exact h
          · rw [List.getElem?_eq_none h] at h3; cases h3
        simp only []
        rw [Array.getD_eq_getD_getElem?, Array.getElem?_append, if_pos (by simpa using hlt)]
        simp [h3]
      · simp [hn]; omega
    refine wp_mono (exec_sound ht hb hmix inv c 0 _ _ _ _ w hok g h) ?_
    intro e a' w' hq
    have fin : ∀ {T : TT} {H : HH}, (resK tab T H fn.results.toList fun vs => R (resV vs) H) → Gam nt [] w Hin T H a' w' →
        a'.defers = [] ∧ ∃ v, (results fn a'.tmps).run P w' = .ok v w' ∧ ∃ v' H', Ending.returned v = .returned v'.den ∧ R v' H' ∧ Ext Hin H' w w' := by
      intro T H hk g'
      obtain ⟨v, hv, hr⟩ := results_run ht g'.tm g'.hh.hp (K := fun v => R v H) hk
      exact ⟨g'.df, v.den, hr, v, H, rfl, hv, g'.hh.toExt⟩
    cases e with
    | normal => obtain ⟨T, H, hk, g'⟩ := hq; exact fin hk g'
    | ret => obtain ⟨T, H, hk, g'⟩ := hq; exact fin hk g'
    | exit i => obtain ⟨T, H, hk, _⟩ := hq; exact hk.elim
    | goto l => exact hq.elim
    | panic ch => exact hq.elim
    | outgrown => exact hq.elim
abbrev body (f : Func) : Code := match f.body with | some c => c | none => .skip
def noinv : Nat → LI := fun _ => .unroll 0

theorem eI {k : IntKind} {a b : Int} (h : a = b) : AV.v (.int k a) = AV.v (.int k b) := by rw [h]
theorem eB {a b : Bool} (h : a = b) : AV.v (.bool a) = AV.v (.bool b) := by rw [h]
theorem eS {a b : ByteArray} (h : a = b) : AV.v (.string a) = AV.v (.string b) := by rw [h]
end Go.Eng
