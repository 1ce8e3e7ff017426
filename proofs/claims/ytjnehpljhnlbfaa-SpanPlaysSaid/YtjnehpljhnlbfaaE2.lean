import Derived.Test.YtjnehpljhnlbfaaE1
namespace Go.Sp
open Go Go.Eng Go.Op Go.Proofs.Ytjnehpljhnlbfaa
structure rel (s : SS) (l : List (Int × RC)) : Prop where
  ok : s.ok
  perm : l.Perm s.L
  srt : l.Pairwise fun x y => x.1 < y.1
theorem getL_in' {L : List (Int × RC)} (hn : (L.map (·.1)).Nodup) {id : Int} {q : RC} (h : (id, q) ∈ L) : getL L id = some q := by
  cases hg : getL L id with
  | none =>
    unfold getL at hg
    cases hf : L.find? fun x => x.1 == id with
    | none =>
      have := List.find?_eq_none.1 hf _ h
      simp at this
    | some x => rw [hf] at hg; cases hg
  | some q' =>
    have := nodup_inj hn h (getL_mem hg) rfl
    cases this
    rfl
theorem getL_out {L : List (Int × RC)} {id : Int} (h : id ∉ L.map (·.1)) : getL L id = none := by
  cases hg : getL L id with
  | none => rfl
  | some q => exact absurd (List.mem_map.2 ⟨_, getL_mem hg, rfl⟩) h
theorem srt_nodup {l : List (Int × RC)} (h : l.Pairwise fun x y => x.1 < y.1) : (l.map (·.1)).Nodup := by
  unfold List.Nodup
  rw [List.pairwise_map]
  exact h.imp fun h => by omega
theorem rel.get {s : SS} {l : List (Int × RC)} (h : rel s l) (id : Int) : getL s.L id = getL l id := by
  cases hg : getL l id with
  | some q => exact getL_in' h.ok.ids (h.perm.mem_iff.1 (getL_mem hg))
  | none =>
    cases hg2 : getL s.L id with
    | none => rfl
    | some q =>
      rw [getL_in' (srt_nodup h.srt) (h.perm.mem_iff.2 (getL_mem hg2))] at hg
      cases hg
theorem rel.len {s : SS} {l : List (Int × RC)} (h : rel s l) : l.length = s.L.length := h.perm.length_eq
theorem rel.few {s : SS} {l : List (Int × RC)} (h : rel s l) : l.length ≤ 8192 := by rw [h.len]; exact h.ok.few
theorem insD_cons (x : Int × RC) (l : List (Int × RC)) (id : Int) (q : RC) : insD (x :: l) id q = if x.1 < id then x :: insD l id q else (id, q) :: x :: l := by
  unfold insD
  by_cases h : x.1 < id
  · have h2 : loB id x = true := by unfold loB; exact decide_eq_true h
    simp [List.takeWhile_cons, List.dropWhile_cons, h2, h]
  · have h2 : loB id x = false := by unfold loB; exact decide_eq_false h
    simp [List.takeWhile_cons, List.dropWhile_cons, h2, h]
theorem insD_srt {id : Int} {q : RC} : ∀ {l : List (Int × RC)}, l.Pairwise (fun x y => x.1 < y.1) → id ∉ l.map (·.1) → (insD l id q).Pairwise (fun x y => x.1 < y.1) ∧ (insD l id q).Perm ((id, q) :: l)
  | [], _, _ => ⟨by simp [insD], by simp [insD]⟩
  | x :: l, hs, hn => by
    obtain ⟨h1, h2⟩ := List.pairwise_cons.1 hs
    have hne : x.1 ≠ id := fun e => hn (by rw [← e]; simp)
    have hnl : id ∉ l.map (·.1) := fun h => hn (by rw [List.map_cons]; exact List.mem_cons_of_mem _ h)
    rw [insD_cons]
    obtain ⟨g1, g2⟩ := insD_srt (q := q) h2 hnl
    split
    · rename_i hlt
      refine ⟨List.pairwise_cons.2 ⟨fun y hy => ?_, g1⟩, (g2.cons x).trans (List.Perm.swap ..)⟩
      rcases List.mem_cons.1 (g2.mem_iff.1 hy) with rfl | hy
      · exact hlt
      · exact h1 y hy
    · rename_i hge
      refine ⟨List.pairwise_cons.2 ⟨fun y hy => ?_, hs⟩, List.Perm.refl _⟩
      rcases List.mem_cons.1 hy with rfl | hy
      · show id < y.1; omega
      · have := h1 y hy
        show id < y.1; omega
theorem rel.add {s s' : SS} {l l' : List (Int × RC)} {id : Int} {q : RC} {code code' : Int} (h : rel s l) (ha : addO s s' id q code) (hd : addDO l id q l' code') : code = code' ∧ rel s' l' := by
  have i1 := ha.is
  have i2 := hd.is
  have hlen := h.len
  unfold addL at i1
  unfold addD at i2
  have same : (s'.L, code) = (s.L, code') → (l, code') = (l', code') → code = code' ∧ rel s' l' := fun j1 j2 => by
    obtain ⟨e1, e2⟩ := Prod.mk.inj j1
    obtain ⟨d1, _⟩ := Prod.mk.inj j2
    exact ⟨e2, ⟨ha.ok, by rw [e1, ← d1]; exact h.perm, by rw [← d1]; exact h.srt⟩⟩
  by_cases hq : okQ q = false
  · rw [if_pos hq] at i1 i2
    have := (Prod.mk.inj i2).2
    subst this
    exact same i1 i2
  · rw [if_neg hq] at i1 i2
    by_cases hid : id ∈ s.L.map (·.1)
    · have hs : (getL l id).isSome = true := by
        obtain ⟨x, hx, rfl⟩ := List.mem_map.1 hid
        rw [← h.get, getL_in' h.ok.ids (show (x.1, x.2) ∈ s.L from hx)]
        rfl
      rw [if_pos hid] at i1
      rw [if_pos hs] at i2
      have := (Prod.mk.inj i2).2
      subst this
      exact same i1 i2
    · have hs : ¬ (getL l id).isSome = true := by
        rw [← h.get, getL_out hid]
        decide
      rw [if_neg hid] at i1
      rw [if_neg hs] at i2
      by_cases hb : l.length ≥ 8192
      · rw [if_pos (by rw [← hlen]; exact hb)] at i1
        rw [if_pos hb] at i2
        have := (Prod.mk.inj i2).2
        subst this
        exact same i1 i2
      · rw [if_neg (by rw [← hlen]; exact hb)] at i1
        rw [if_neg hb] at i2
        obtain ⟨e1, e2⟩ := Prod.mk.inj i1
        obtain ⟨d1, d2⟩ := Prod.mk.inj i2
        have hni : id ∉ l.map (·.1) := fun hm => hid ((h.perm.map _).mem_iff.1 hm)
        obtain ⟨g1, g2⟩ := insD_srt (q := q) h.srt hni
        refine ⟨e2.trans d2, ⟨ha.ok, ?_, by rw [← d1]; exact g1⟩⟩
        rw [e1, ← d1]
        exact (g2.trans (h.perm.cons _)).trans (List.perm_append_singleton _ _).symm
theorem filterMap_cong {α β : Type} {f g : α → Option β} : ∀ {l : List α}, (∀ x ∈ l, f x = g x) → l.filterMap f = l.filterMap g
  | [], _ => rfl
  | x :: l, h => by
    rw [List.filterMap_cons, List.filterMap_cons, h x (List.mem_cons_self ..), filterMap_cong fun y hy => h y (List.mem_cons_of_mem _ hy)]
theorem rel.drop {s s' : SS} {l l' : List (Int × RC)} {id : Int} {b b' : Bool} (h : rel s l) (ha : dropO s s' id b) (hd : rdropO l id l' b') : b = b' ∧ rel s' l' := by
  obtain ⟨e1, e2⟩ := Prod.mk.inj ha.is
  have hl' : l' = l.filter fun x => !(x.1 == id) := hd.is
  refine ⟨?_, ⟨ha.ok, ?_, ?_⟩⟩
  · rw [e2, hd.hb, hl', Bool.eq_iff_iff, decide_eq_true_eq, List.any_eq_true]
    constructor
    · rintro ⟨x, hx, hxe⟩
      exact List.length_filter_lt_length_iff_exists.2 ⟨x, h.perm.mem_iff.2 hx, by simpa using hxe⟩
    · intro hlt
      obtain ⟨x, hx, hxe⟩ := List.length_filter_lt_length_iff_exists.1 hlt
      exact ⟨x, h.perm.mem_iff.1 hx, by simpa using hxe⟩
  · rw [e1, hl']
    exact h.perm.filter _
  · rw [hl']
    exact h.srt.filter _
theorem rel.ids {s : SS} {l : List (Int × RC)} (h : rel s l) : idsL s.L = l.map (·.1) := by
  unfold idsL
  refine (sortI_one (l := l.map (·.1)) (h.perm.map _) ?_).symm
  rw [List.pairwise_map]
  exact h.srt.imp fun h => by omega
end Go.Sp
namespace Go.Proofs.Ytjnehpljhnlbfaa
open Go Go.Eng Go.Sp Go.Op
theorem rrQ_eq (k a c : Int) (q : RC) : rcOkQ k a c q = rrOkQ k a c q ∧ rcQ k a c q = rrQ k a c q := by
  obtain ⟨h1, h2, h3, h4, h5⟩ := rc_eq k a c q.t q.l q.b q.r
  exact ⟨h1, by unfold rcQ rrQ; rw [h2, h3, h4, h5]⟩
end Go.Proofs.Ytjnehpljhnlbfaa
namespace Go.Sp
open Go Go.Eng Go.Op Go.Proofs.Ytjnehpljhnlbfaa
theorem rel.move {s s' : SS} {l l' : List (Int × RC)} {k a c : Int} {g g' : List Int} {code : Int} (h : rel s l) (hr : rightF k a c = true) (ha : moveO s s' k a c g' code) (hd : rmoveO k a c l l' g) : code = 0 ∧ g' = g ∧ rel s' l' := by
  have is := ha.is
  unfold moveL at is
  rw [if_pos hr] at is
  obtain ⟨e1, e2⟩ := Prod.mk.inj is
  obtain ⟨e2, e3⟩ := Prod.mk.inj e2
  have hget : ∀ x ∈ l, getL s.L x.1 = some x.2 := fun x hx => getL_in' h.ok.ids (h.perm.mem_iff.1 hx)
  have hL : s'.L = l' := by
    rw [e1, h.ids, hd.is]
    unfold movN
    rw [List.filterMap_map]
    refine filterMap_cong fun x hx => ?_
    show mov1 k a c s.L x.1 = _
    unfold mov1
    rw [hget x hx]
    obtain ⟨r1, r2⟩ := rrQ_eq k a c x.2
    show (if rcOkQ k a c x.2 then some (x.1, rcQ k a c x.2) else none) = _
    rw [r1, r2]
  have hG : g' = g := by
    rw [e2, h.ids, hd.gs]
    unfold gonN
    rw [List.filter_map]
    congr 1
    refine List.filter_congr fun x hx => ?_
    show gonB k a c s.L x.1 = _
    unfold gonB
    rw [hget x hx]
    show (!rcOkQ k a c x.2) = _
    rw [(rrQ_eq k a c x.2).1]
  refine ⟨e3, hG, ⟨ha.ok, by rw [hL], ?_⟩⟩
  rw [hd.is, List.pairwise_filterMap]
  refine h.srt.imp fun {x y} hxy u hu v hv => ?_
  split at hu
  · split at hv
    · cases hu; cases hv; exact hxy
    · cases hv
  · cases hu
theorem rel.wrong {s s' : SS} {l : List (Int × RC)} {k a c : Int} {g' : List Int} {code : Int} (h : rel s l) (hr : rightF k a c = false) (ha : moveO s s' k a c g' code) : code = 2 ∧ g' = [] ∧ rel s' l := by
  have is := ha.is
  unfold moveL at is
  rw [if_neg (by rw [hr]; decide)] at is
  obtain ⟨e1, e2⟩ := Prod.mk.inj is
  obtain ⟨e2, e3⟩ := Prod.mk.inj e2
  exact ⟨e3, e2, ⟨ha.ok, by rw [e1]; exact h.perm, h.srt⟩⟩
theorem sel_sorted {l : List (Int × RC)} (h : l.Pairwise fun x y => x.1 < y.1) (p : Int × RC → Bool) : ((l.filter p).map (·.1)).Pairwise fun x y => x ≤ y := by
  rw [List.pairwise_map]
  exact (h.filter _).imp fun h => by omega
theorem rel.meet {s : SS} {l : List (Int × RC)} {t lf b r : Int} {m m' : List Int} (h : rel s l) (ha : meetO s.L ⟨t, lf, b, r⟩ m') (hd : rselO (fun x => mt x.t x.l x.b x.r t lf b r) l m) : m' = m := by
  rw [ha.is, hd.is]
  have hp : ∀ x ∈ l, mt x.2.t x.2.l x.2.b x.2.r t lf b r = (okQ ⟨t, lf, b, r⟩ && mtQ x.2 ⟨t, lf, b, r⟩) := fun x hx => by
    have := mt_mtQ x.2 ⟨t, lf, b, r⟩
    rw [h.ok.right x (h.perm.mem_iff.1 hx), Bool.true_and] at this
    exact this
  rw [List.filter_congr hp]
  unfold meetL
  cases hq : okQ ⟨t, lf, b, r⟩ with
  | false => simp
  | true =>
    rw [if_pos rfl]
    simp only [Bool.true_and]
    exact (sortI_one (l := (l.filter fun x => mtQ x.2 ⟨t, lf, b, r⟩).map (·.1)) ((h.perm.filter _).map _) (sel_sorted h.srt _)).symm
theorem rel.stab {s : SS} {l : List (Int × RC)} {y x : Int} {m m' : List Int} (h : rel s l) (ha : stabO s.L y x m') (hd : rselO (fun q => inF q.t q.l q.b q.r y x) l m) : m' = m := by
  rw [ha.is, hd.is]
  unfold stabL
  cases hp : okP y x with
  | false =>
    have : ∀ z ∈ l, inF z.2.t z.2.l z.2.b z.2.r y x = false := fun z _ => in_no z.2 hp
    rw [if_neg (by decide), List.filter_congr this]
    simp
  | true =>
    have hq : okQ ⟨y, x, y, x⟩ = true := by
      show okR y x y x = true
      have := hp
      simp only [okP, decide_eq_true_eq] at this
      rw [okR_iff]; omega
    have : ∀ z ∈ l, inF z.2.t z.2.l z.2.b z.2.r y x = mtQ z.2 ⟨y, x, y, x⟩ := fun z hz => by
      rw [in_mt z.2 hp, h.ok.right z (h.perm.mem_iff.1 hz), Bool.true_and]
    rw [if_pos rfl, List.filter_congr this]
    unfold meetL
    rw [if_pos hq]
    exact (sortI_one (l := (l.filter fun z => mtQ z.2 ⟨y, x, y, x⟩).map (·.1)) ((h.perm.filter _).map _) (sel_sorted h.srt _)).symm
end Go.Sp
