import Derived.Test.YthnkafambegbcaaEngE
set_option linter.unusedSimpArgs false
namespace Go.Eng
open Go Go.Sp
def setAll : HH → List Nat → HH → HH
  | H, i :: l, b :: bs => setAll (H.set i b) l bs
  | H, _, _ => H
theorem setAll_length : ∀ (l : List Nat) (H bs : HH), (setAll H l bs).length = H.length
  | [], H, bs => by simp [setAll]
  | i :: l, H, [] => by simp [setAll]
  | i :: l, H, b :: bs => by simp [setAll, setAll_length l]
theorem setAll_get : ∀ (l : List Nat) (H bs : HH), l.Nodup → bs.length = l.length → ∀ (i : Nat) (b : Blk), (setAll H l bs)[i]? = some b →
    (i ∉ l ∧ H[i]? = some b) ∨ ∃ k : Nat, l[k]? = some i ∧ bs[k]? = some b
  | [], H, bs, _, hl, i, b, h => by
    have : bs = [] := List.eq_nil_of_length_eq_zero hl
    subst this
    exact .inl ⟨by simp, h⟩
  | j :: l, H, [], _, hl, i, b, h => by simp at hl
  | j :: l, H, c :: bs, hn, hl, i, b, h => by
    obtain ⟨hj, hn⟩ := List.nodup_cons.1 hn
    simp only [setAll] at h
    rcases setAll_get l (H.set j c) bs hn (by simpa using hl) i b h with ⟨h1, h2⟩ | ⟨k, h1, h2⟩
    · rcases List.set_get h2 with ⟨h3, h4⟩ | ⟨h3, h4, _⟩
      · exact .inl ⟨by simp [h3, h1], h4⟩
      · exact .inr ⟨0, by simp [h3], by simp [h4]⟩
    · exact .inr ⟨k + 1, by simpa using h1, by simpa using h2⟩
def pickAll (H : HH) : List Nat → Option HH
  | [] => some []
  | i :: l =>
    match nth H i, pickAll H l with
    | some b, some bs => some (b :: bs)
    | _, _ => none
theorem pickAll_get {H : HH} : ∀ {l : List Nat} {bs : HH}, pickAll H l = some bs → bs.length = l.length ∧ ∀ (k : Nat) (b : Blk), bs[k]? = some b → ∃ i, l[k]? = some i ∧ H[i]? = some b
  | [], bs, h => by cases h; exact ⟨rfl, fun k b h => by simp at h⟩
  | i :: l, bs, h => by
    simp only [pickAll] at h
    split at h
    · rename_i b cs hb hcs
      cases h
      obtain ⟨h1, h2⟩ := pickAll_get hcs
      refine ⟨by simp [h1], fun k c hk => ?_⟩
      cases k with
      | zero => simp at hk; subst hk; rw [nth_eq] at hb; exact ⟨i, by simp, hb⟩
      | succ k =>
        simp only [List.getElem?_cons_succ] at hk ⊢
        exact h2 k c hk
    · cases h
theorem pickAll_of {H : HH} : ∀ {l : List Nat} {bs : HH}, pickAll H l = some bs → ∀ (k i : Nat), l[k]? = some i → ∃ b, bs[k]? = some b ∧ H[i]? = some b
  | [], bs, h, k, i, hk => by simp at hk
  | j :: l, bs, h, k, i, hk => by
    simp only [pickAll] at h
    split at h
    · rename_i b cs hb hcs
      cases h
      cases k with
      | zero => simp at hk; subst hk; rw [nth_eq] at hb; exact ⟨b, by simp, hb⟩
      | succ k =>
        simp only [List.getElem?_cons_succ] at hk ⊢
        exact pickAll_of hcs k i hk
    · cases h
theorem nodup_get : ∀ {l : List Nat}, l.Nodup → ∀ {j k i : Nat}, l[j]? = some i → l[k]? = some i → j = k
  | [], _, _, _, _, h, _ => by simp at h
  | x :: l, hn, j, k, i, h1, h2 => by
    obtain ⟨hx, hn⟩ := List.nodup_cons.1 hn
    cases j with
    | zero =>
      cases k with
      | zero => rfl
      | succ k =>
        simp at h1 h2; subst h1
        exact absurd (List.mem_of_getElem? h2) hx
    | succ j =>
      cases k with
      | zero =>
        simp at h1 h2; subst h2
        exact absurd (List.mem_of_getElem? h1) hx
      | succ k =>
        simp at h1 h2
        exact congrArg (· + 1) (nodup_get hn h1 h2)
theorem HoldsH.pick {H : HH} {w : World} (h : HoldsH H w) {l : List Nat} {bs : HH} (hp : pickAll H l = some bs) (hn : l.Nodup) : HoldsH bs w := by
  refine ⟨fun k b hk => ?_, fun j k b c hj hk hjk => ?_⟩
  · obtain ⟨i, _, hi⟩ := (pickAll_get hp).2 k b hk
    exact h.all i b hi
  · obtain ⟨i, hi1, hi⟩ := (pickAll_get hp).2 j b hj
    obtain ⟨m, hm1, hm⟩ := (pickAll_get hp).2 k c hk
    refine h.apart i m b c hi hm (fun e => hjk ?_)
    subst e
    exact nodup_get hn hi1 hm1
theorem Ext.frame {H Hin H' Hpost Hnew : HH} {w w' : World} (hH : HoldsH H w) {l : List Nat} (hp : pickAll H l = some Hin) (hn : l.Nodup) (e : Ext Hin H' w w') (hle : LeH H' (Hpost ++ Hnew)) (hlen : Hpost.length = l.length) :
    Ext H (setAll H l Hpost ++ Hnew) w w' := by
  have hok : HeapOk w Hin (Hpost ++ Hnew) w' := HeapOk.le ⟨e.hp, e.fr, e.src⟩ hle
  have hoff : ∀ (i : Nat) (b : Blk), i ∉ l → H[i]? = some b → ∀ k ∈ b.nums, ∀ (j : Nat) (d : Blk), Hin[j]? = some d → k ∉ d.nums := by
    intro i b hi hb k hk j d hj hd
    obtain ⟨m, hm1, hm⟩ := (pickAll_get hp).2 j d hj
    exact hH.apart i m b d hb hm (fun e => hi (e ▸ List.mem_of_getElem? hm1)) k hk hd
  have hkeep : ∀ (i : Nat) (b : Blk), i ∉ l → H[i]? = some b → ∀ k ∈ b.nums, w'.heap[k]? = w.heap[k]? := by
    intro i b hi hb k hk
    refine e.fr.block _ (Cont.holds_lt (hH.all i b hb) k hk) (fun hm => ?_)
    obtain ⟨j, d, hj, _, hd⟩ := mem_ownNums hm
    exact hoff i b hi hb k hk j d hj hd
  have cases_ : ∀ (i : Nat) (b : Blk), (setAll H l Hpost ++ Hnew)[i]? = some b → (i ∉ l ∧ H[i]? = some b) ∨ (∃ k : Nat, (Hpost ++ Hnew)[k]? = some b ∧ ((l[k]? = some i ∧ i < H.length) ∨ (H.length ≤ i ∧ k = Hpost.length + (i - H.length)))) := by
    intro i b hi
    rw [List.getElem?_append, setAll_length] at hi
    split at hi
    · rename_i hlt
      rcases setAll_get l H Hpost hn hlen i b hi with ⟨h1, h2⟩ | ⟨k, h1, h2⟩
      · exact .inl ⟨h1, h2⟩
      · refine .inr ⟨k, ?_, .inl ⟨h1, hlt⟩⟩
        rw [List.getElem?_append_left (List.getElem?_eq_some_iff.1 h2).1]
        exact h2
    · refine .inr ⟨Hpost.length + (i - H.length), ?_, .inr ⟨by omega, rfl⟩⟩
      rw [List.getElem?_append_right (by omega)]
      simpa using hi
  have hnew : ∀ (i : Nat) (b : Blk), i ∉ l → H[i]? = some b → ∀ (j : Nat) (c : Blk), (Hpost ++ Hnew)[j]? = some c → ∀ k ∈ b.nums, k ∉ c.nums := by
    intro i b hi hb j c hc k hk hk2
    rcases hok.src j c hc k hk2 with ⟨m, d, hm, hd, _⟩ | h
    · exact hoff i b hi hb k hk m d hm hd
    · have := Cont.holds_lt (hH.all i b hb) k hk
      omega
  refine ⟨⟨fun i b hi => ?_, fun i j b c hi hj hij => ?_⟩, ⟨e.fr.os, e.fr.tape, e.fr.output, e.fr.size, fun k hk hf => e.fr.block k hk (fun hm => hf ?_), e.fr.dr⟩, fun i b hi k hk => ?_⟩
  · rcases cases_ i b hi with ⟨h1, h2⟩ | ⟨k, h2, _⟩
    · exact Cont.holds_block (hH.all i b h2) (hkeep i b h1 h2)
    · exact hok.hp.all k b h2
  · rcases cases_ i b hi with ⟨h1, h2⟩ | ⟨k, h2, h3⟩ <;> rcases cases_ j c hj with ⟨g1, g2⟩ | ⟨m, g2, g3⟩
    · exact hH.apart i j b c h2 g2 hij
    · exact hnew i b h1 h2 m c g2
    · exact fun x hx hx2 => hnew j c g1 g2 k b h2 x hx2 hx
    · refine hok.hp.apart k m b c h2 g2 (fun ekm => hij ?_)
      subst ekm
      rcases h3 with ⟨h3, h4⟩ | ⟨h3, h4⟩ <;> rcases g3 with ⟨g3, g4⟩ | ⟨g3, g4⟩
      · rw [h3] at g3; exact Option.some.inj g3
      · have := (List.getElem?_eq_some_iff.1 h3).1; omega
      · have := (List.getElem?_eq_some_iff.1 g3).1; omega
      · omega
  · obtain ⟨m, d, hm, hdo, hd⟩ := mem_ownNums hm
    obtain ⟨j, _, hj⟩ := (pickAll_get hp).2 m d hm
    exact ownNums_mem hdo hd hj
  · rcases cases_ i b hi with ⟨_, h2⟩ | ⟨m, h2, _⟩
    · exact .inl ⟨i, b, h2, hk, id⟩
    · rcases hok.src m b h2 k hk with ⟨j, d, hj, hd, ho⟩ | h
      · obtain ⟨x, _, hx⟩ := (pickAll_get hp).2 j d hj
        exact .inl ⟨x, d, hx, hd, ho⟩
      · exact .inr h
structure Plan where
  l : List Nat
  Hin : HH
  res : AV
  Hpost : HH
def detH (pl : List AV → HH → Option Plan) : Handler := fun _ args H K =>
  match pl args H with
  | some p => K (.ret p.res) (setAll H p.l p.Hpost)
  | none => False
def nodupB : List Nat → Bool
  | [] => true
  | i :: l => !l.contains i && nodupB l
theorem nodupB_spec : ∀ {l : List Nat}, nodupB l = true → l.Nodup
  | [], _ => List.nodup_nil
  | i :: l, h => by
    simp only [nodupB, Bool.and_eq_true, Bool.not_eq_true', List.contains_eq_mem, decide_eq_false_iff_not] at h
    exact List.nodup_cons.2 ⟨h.1, nodupB_spec h.2⟩
structure PlanOk (P : Program) (f : FuncId) (args : List AV) (H : HH) (p : Plan) : Prop where
  pick : pickAll H p.l = some p.Hin
  nodup : p.l.Nodup
  len : p.Hpost.length = p.l.length
  lc : LC P f args p.Hin fun r H' => r = p.res ∧ LeH H' p.Hpost
theorem detH_ok {P : Program} {f : FuncId} {pl : List AV → HH → Option Plan} (he : Enters P f) (h : ∀ args H p, pl args H = some p → PlanOk P f args H p) : HOk P f (detH pl) := by
  refine ⟨he, fun rs _ args H K w hH hk => ?_⟩
  unfold detH at hk
  split at hk
  · rename_i p hp
    have ok := h args H p hp
    refine (ok.lc.calls w (hH.pick ok.pick ok.nodup)).mono fun e w' hq => ?_
    obtain ⟨r, H', rfl, ⟨rfl, hle⟩, hx⟩ := hq
    show OutOk K H w (.returned _) w'
    refine ⟨_, _, rfl, hk, ?_⟩
    have := Ext.frame (Hnew := []) hH ok.pick ok.nodup hx (by simpa using hle) ok.len
    simpa using this
  · exact hk.elim
def relH (S : List AV → HH → (AV → HH → Prop) → Prop) : Handler := fun _ args H K => S args H fun r H' => K (.ret r) H'
def RelOk (P : Program) (f : FuncId) (S : List AV → HH → (AV → HH → Prop) → Prop) : Prop := ∀ args H K, S args H K →
  ∃ (l : List Nat) (Hin : HH) (R : AV → HH → Prop), pickAll H l = some Hin ∧ l.Nodup ∧ LC P f args Hin R ∧ ∀ r H', R r H' → ∃ Hpost Hnew : HH, Hpost.length = l.length ∧ LeH H' (Hpost ++ Hnew) ∧ K r (setAll H l Hpost ++ Hnew)
theorem relH_ok {P : Program} {f : FuncId} {S : List AV → HH → (AV → HH → Prop) → Prop} (he : Enters P f) (h : RelOk P f S) : HOk P f (relH S) := by
  refine ⟨he, fun rs _ args H K w hH hk => ?_⟩
  obtain ⟨l, Hin, R, h1, h2, h3, h4⟩ := h args H _ hk
  refine (h3.calls w (hH.pick h1 h2)).mono fun e w' hq => ?_
  obtain ⟨r, H', rfl, hr, hx⟩ := hq
  obtain ⟨Hpost, Hnew, g1, g2, g3⟩ := h4 r H' hr
  exact ⟨_, _, rfl, g3, Ext.frame hH h1 h2 hx g2 g1⟩
def inlH (tab : Tab) (tbl : Tbl) (inv : Inv) (k : Nat) (fn : Func) (np : Nat) : Handler := fun rs args H K =>
  match Nat.beq args.length np with
  | true => execN tab tbl inv k fn.ntmps rs none 0 (body fn) (argsT args 0) H (post fn tab K)
  | false => False
theorem inl_ok {P : Program} {tab : Tab} {tbl : Tbl} (ht : TabOk P tab) (hb : TblOk P tbl) (hmix : P.follows .mixedOrders = true) (inv : Inv) (k : Nat) {f : FuncId} {fn : Func} (nt np : Nat)
    (hf : P.funcs[f]? = some fn) (hc : fn.body = some (body fn)) (hn : fn.ntmps = nt) (hname : (fn.name == "runtime.NumGoroutine") = false) (hok : codeOk tab nt (body fn) = true) (ha : np ≤ nt) :
    HOk P f (inlH tab tbl inv k fn np) := by
  refine ⟨enters_of hf hc hname, fun rs hrs args H K w hw h => ?_⟩
  unfold inlH at h
  split at h
  · rename_i e
    have e := Nat.eq_of_beq_eq_true e
    rw [hn] at h
    exact calls_of_exec ht hb hmix inv k hrs nt hf hc hn hok (by omega) h w hw
  · exact h.elim
theorem ble_false {a b : Nat} (h : Nat.ble a b = false) : b < a := by
  rcases Nat.lt_or_ge b a with h' | h'
  · exact h'
  · rw [Nat.ble_eq_true_of_le h'] at h; cases h
@[simp] theorem ble_false_iff {a b : Nat} : Nat.ble a b = false ↔ b < a := ⟨ble_false, fun h => by
  cases hb : Nat.ble a b with
  | false => rfl
  | true => have := Nat.le_of_ble_eq_true hb; omega⟩
@[simp] theorem ble_true_iff {a b : Nat} : Nat.ble a b = true ↔ a ≤ b := ⟨Nat.le_of_ble_eq_true, Nat.ble_eq_true_of_le⟩
end Go.Eng
