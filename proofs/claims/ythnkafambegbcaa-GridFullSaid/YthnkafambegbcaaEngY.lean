import Derived.Test.YthnkafambegbcaaEngW
set_option linter.unusedSimpArgs false
set_option linter.unusedVariables false
namespace Go.Eng
open Go Go.Sp
theorem dAt_lt {α : Type} {l : List α} {z : α} {i : Nat} (h : i < l.length) : dAt l z i = l[i] := by simp [dAt, h]
theorem dAt_append {α : Type} (l m : List α) (z : α) (i : Nat) : dAt (l ++ m) z i = if i < l.length then dAt l z i else dAt m z (i - l.length) := by
  unfold dAt
  rw [List.getElem?_append]
  split <;> rfl
theorem dAt_sub {α : Type} {l : List α} {z : α} {r k i : Nat} (h : i < k) : dAt ((l.drop r).take k) z i = dAt l z (r + i) := by
  unfold dAt
  rw [List.getElem?_take, if_pos h, List.getElem?_drop]
def dtOf (tab : Tab) (tbl : Tbl) (at_ : List TypeId) : Option Hd :=
  match at_ with
  | t :: _ => (match tab.get t with | some ⟨_, _, _, .slice e, _⟩ => tbl.get (4294900000 + e) | _ => none)
  | _ => none
def decL {α : Type} (d : DT α) : Nat → List AV → Option (List α)
  | 0, _ => some []
  | n + 1, xs => match d.dec (xs.take d.sz), decL d n (xs.drop d.sz) with
    | some a, some l => some (a :: l)
    | _, _ => none
theorem decL_spec {α : Type} {d : DT α} (ok : d.Ok) : ∀ {n : Nat} {xs : List AV} {l : List α}, decL d n xs = some l → l.length = n ∧ ∀ i, i < n → denL (d.enc (dAt l d.z i)) = denL ((xs.drop (i * d.sz)).take d.sz)
  | 0, _, l, h => by simp [decL] at h; subst h; exact ⟨rfl, fun i hi => absurd hi (Nat.not_lt_zero i)⟩
  | n + 1, xs, l, h => by
    simp only [decL] at h
    split at h
    · rename_i a m ha hm
      cases h
      obtain ⟨h1, h2⟩ := decL_spec ok hm
      refine ⟨by simp [h1], fun i hi => ?_⟩
      cases i with
      | zero => simpa [dAt] using ok.dec _ _ ha
      | succ i =>
        have := h2 i (by omega)
        rw [List.drop_drop] at this
        have e : d.sz + i * d.sz = (i + 1) * d.sz := by rw [Nat.add_mul]; omega
        rw [e] at this
        simpa [dAt] using this
    · cases h
def srcD (tab : Tab) (H : HH) {α : Type} (d : DT α) (tx : TypeId) (x : AV) (K : List α → Prop) : Prop :=
  match tab.get tx, x with
  | some ⟨_, _, _, .slice _, _⟩, .sl id n r sz k _ => ck (Nat.beq sz d.sz) <|
    (match nth H id with
     | some ⟨m, .cells l _, _⟩ => ck (Nat.ble ((r + k) * sz) l.length && ((l.drop (r * sz)).take (k * sz)).all AV.one) <| n = m ∧ (match decL d k ((l.drop (r * sz)).take (k * sz)) with | some xs => K xs | none => False)
     | _ => False)
  | some ⟨_, _, _, .slice _, _⟩, .v (.slice _ 0 _) => K []
  | some ⟨_, _, _, .slice _, _⟩, .os id _ n o r sz k _ => ck (Nat.beq sz d.sz) <|
    (match nth H id with
     | some ⟨m, .dl _ d' o' l _ _ _, _⟩ => ck (Nat.beq d'.sz sz) <| n = m ∧ o = o' ∧ r + k ≤ l.length ∧ ∃ xs : List α, xs.map d.enc = ((l.drop r).take k).map d'.enc ∧ K xs
     | _ => False)
  | _, _ => False
theorem src_rows {P : Program} {w : World} {tx e : Nat} (hk : P.underlying tx = some (.slice e)) {id n o r k cap sz N : Nat} {a0 : Option Addr} {row : Nat → List AV} (hl : ∀ i, (row i).length = sz) (h1 : ∀ i, ∀ x ∈ row i, x.one = true) (hrk : r + k ≤ N)
    (hst : 0 < k → ∃ (c : List Value) (ty : TypeId) (fz : Nat × Nat), w.heap[n]? = some (.cells c.toArray ty fz) ∧ ∀ i, i < N → ∀ j x, (row i)[j]? = some x → c[o + i * sz + j]? = some x.den) :
    ∃ news, Src P sz tx (AV.os id a0 n o r sz k cap).den k news w ∧ ∀ i, i < k → ∀ j c, (row (r + i))[j]? = some c → news[i * sz + j]? = some c.den := by
  by_cases hk0 : k = 0
  · subst hk0
    refine ⟨[], ?_, fun i hi => by omega⟩
    show Src P sz tx (.slice a0 0 cap) 0 [] w
    cases a0 with
    | none => exact Src.ofNil w hk cap
    | some a => exact Src.ofSlice w hk a 0 cap [] (by simp) (fun j u hu => by simp at hu) (fun u hu => by cases hu)
  have hden : (AV.os id a0 n o r sz k cap).den = .slice (some ⟨n, o + r * sz, none⟩) k cap := by simp [AV.den, hk0]
  rw [hden]
  obtain ⟨c, ty, fz, hc, hcc⟩ := hst (by omega)
  have hrow0 : ∀ i, i < k → ∀ j y, (row (r + i))[j]? = some y → c[o + r * sz + (i * sz + j)]? = some y.den := by
    intro i hi j y hy
    have := hcc (r + i) (by omega) j y hy
    rw [Nat.add_mul] at this
    rw [← this]
    congr 1
    omega
  have hin : ∀ p, p < k * sz → o + r * sz + p < c.length := fun p hp => by
    obtain ⟨h1, h2, h3⟩ := mul_split hp
    have hy : ∃ y, (row (r + p / sz))[p % sz]? = some y := ⟨_, List.getElem?_eq_getElem (by rw [hl]; exact h2)⟩
    obtain ⟨y, hy⟩ := hy
    have := hrow0 _ h1 _ y hy
    rw [← h3] at this
    exact (List.getElem?_eq_some_iff.1 this).1
  have hlen : ((c.drop (o + r * sz)).take (k * sz)).length = k * sz := by
    rcases Nat.eq_zero_or_pos (k * sz) with h0 | h0
    · simp [h0]
    · have := hin (k * sz - 1) (by omega)
      simp; omega
  have hget : ∀ p, p < k * sz → ((c.drop (o + r * sz)).take (k * sz))[p]? = c[o + r * sz + p]? := fun p hp => by
    rw [List.getElem?_take, if_pos hp, List.getElem?_drop]
  have hrow : ∀ i, i < k → ∀ j y, (row (r + i))[j]? = some y → ((c.drop (o + r * sz)).take (k * sz))[i * sz + j]? = some y.den := by
    intro i hi j y hy
    have hj : j < sz := by
      rcases Nat.lt_or_ge j sz with h1 | h1
      · exact h1
      · rw [List.getElem?_eq_none (by rw [hl]; exact h1)] at hy; cases hy
    rw [hget _ (row_idx hi hj)]
    exact hrow0 i hi j y hy
  refine ⟨_, Src.ofSlice w hk ⟨n, o + r * sz, none⟩ k cap _ hlen (fun j u hu => ?_) (fun u hu => ?_), hrow⟩
  · have hj : j < k * sz := by
      rcases Nat.lt_or_ge j (k * sz) with h1 | h1
      · exact h1
      · rw [List.getElem?_eq_none (by rw [hlen]; exact h1)] at hu; cases hu
    rw [addr_add]
    have := hget j hj
    rw [hu] at this
    simp [World.cell?, hc, ← this]
  · obtain ⟨p, hp⟩ := List.getElem?_of_mem hu
    have hpl : p < k * sz := by
      rcases Nat.lt_or_ge p (k * sz) with h1 | h1
      · exact h1
      · rw [List.getElem?_eq_none (by rw [hlen]; exact h1)] at hp; cases hp
    obtain ⟨h1', h2, h3⟩ := mul_split hpl
    have hy : ∃ y, (row (r + p / sz))[p % sz]? = some y := ⟨_, List.getElem?_eq_getElem (by rw [hl]; exact h2)⟩
    obtain ⟨y, hy⟩ := hy
    have := hrow _ h1' _ y hy
    rw [← h3, hp] at this
    cases this
    exact AV.one_den (h1 _ y (List.mem_of_getElem? hy))
theorem DT.Ok.one' {α : Type} {d : DT α} (ok : d.Ok) : ∀ a, ∀ x ∈ d.enc a, x.one = true := fun a x hx => List.all_eq_true.1 (ok.one a) x hx
theorem srcD_sound {P : Program} {tab : Tab} (ht : TabOk P tab) {H : HH} {w : World} (hw : HoldsH H w) {α : Type} {d : DT α} (ok : d.Ok) {tx : Nat} {x : AV} {K : List α → Prop} (h : srcD tab H d tx x K) :
    ∃ xs, K xs ∧ ∃ news, Src P d.sz tx x.den xs.length news w ∧ ∀ i, i < xs.length → ∀ j c, (d.enc (dAt xs d.z i))[j]? = some c → news[i * d.sz + j]? = some c.den := by
  unfold srcD at h
  split at h
  · rename_i e _ id n r sz k cap htx
    have hk := (ht.get htx).desc
    simp only [DescOk] at hk
    have g_ := ck_spec h
    clear h
    obtain ⟨hsz, h⟩ := g_
    obtain rfl := Nat.eq_of_beq_eq_true hsz
    split at h
    · rename_i m l ty own hb
      have g_ := ck_spec h
      clear h
      obtain ⟨hck, rfl, h⟩ := g_
      split at h
      · rename_i xs hxs
        obtain ⟨l1, l2⟩ := decL_spec ok hxs
        have hs : srcK tab H d.sz tx (.sl id n r d.sz k cap) fun k' cs => k' = k ∧ cs = cellCols l d.sz r (List.range d.sz) := by
          unfold srcK
          rw [htx]
          simp only [hb, hck, Nat.beq_refl, ck, and_self]
        obtain ⟨k', cs, ⟨rfl, rfl⟩, _, hq⟩ := srcK_sound ht hs
        obtain ⟨news, hs, hn⟩ := hq w hw
        refine ⟨xs, h, news, by rw [l1]; exact hs, fun i hi j c hc => ?_⟩
        rw [l1] at hi
        have hj : j < d.sz := by
          rcases Nat.lt_or_ge j d.sz with h1 | h1
          · exact h1
          · rw [List.getElem?_eq_none (by rw [ok.len]; exact h1)] at hc; cases hc
        obtain ⟨y, hy, hyc⟩ := denL_get' (l2 i hi) hc
        rw [hyc]
        rw [List.getElem?_take, if_pos hj, List.getElem?_drop, List.getElem?_take, if_pos (row_idx hi hj), List.getElem?_drop] at hy
        refine hn i hi j y ?_
        rw [cellCols_row, List.getElem?_map, List.getElem?_range hj]
        have e : (r + i) * d.sz + j = r * d.sz + (i * d.sz + j) := by rw [Nat.add_mul]; omega
        simp only [Option.map_some, e, hy, Option.getD_some]
      · exact h.elim
    · exact h.elim
  · rename_i e _ a0 cap htx
    have hk := (ht.get htx).desc
    simp only [DescOk] at hk
    refine ⟨_, h, [], ?_, fun i hi => absurd hi (Nat.not_lt_zero i)⟩
    cases a0 with
    | none => exact Src.ofNil w hk cap
    | some a => exact Src.ofSlice w hk a 0 cap [] (by simp) (fun j u hu => by simp at hu) (fun u hu => by cases hu)
  · rename_i e _ id a0 n o r sz k cap htx
    have hk := (ht.get htx).desc
    simp only [DescOk] at hk
    have g_ := ck_spec h
    clear h
    obtain ⟨hsz, h⟩ := g_
    obtain rfl := Nat.eq_of_beq_eq_true hsz
    split at h
    · rename_i m β d' o' l S wr foc own hb
      have g_ := ck_spec h
      clear h
      obtain ⟨hd, rfl, rfl, hrk, xs, hx, h⟩ := g_
      have hd := Nat.eq_of_beq_eq_true hd
      rw [nth_eq] at hb
      obtain ⟨k1, _, b1, b2, _⟩ := hw.all id _ hb
      have hxl : xs.length = k := by
        have := congrArg List.length hx
        simp at this
        omega
      obtain ⟨news, s1, s2⟩ := src_rows (P := P) (w := w) hk (id := id) (a0 := a0) (cap := cap) (N := l.length) (row := fun i => d'.enc (dAt l d'.z i)) (sz := d.sz) (fun i => by rw [k1.len]; exact hd) (fun i => k1.one' _) hrk (fun hpos => by
        obtain ⟨_, c, ty, fz, g1, g2⟩ := b2 (by omega)
        exact ⟨c, ty, fz, g1, by rw [hd] at g2; exact g2⟩)
      refine ⟨xs, h, news, by rw [hxl]; exact s1, fun i hi j c hc => ?_⟩
      refine s2 i (by omega) j c ?_
      have e1 : (xs.map d.enc)[i]? = some (d.enc (dAt xs d.z i)) := by rw [List.getElem?_map, List.getElem?_eq_getElem hi, dAt_lt hi]; rfl
      rw [hx, List.getElem?_map, List.getElem?_take, if_pos (by omega), List.getElem?_drop, List.getElem?_eq_getElem (show r + i < l.length by omega)] at e1
      simp only [Option.map_some, Option.some.injEq] at e1
      rw [dAt_lt (show r + i < l.length by omega), e1]
      exact hc
    · exact h.elim
  · exact h.elim
theorem dl_nil {α : Type} {d : DT α} (ok : d.Ok) {w : World} {n o : Nat} {wr : Option (Nat × TypeId)} (hw : wr = none ∨ ∃ e, wr = some (0, e) ∧ o = 0) : (Cont.dl α d o [] [] wr none).holds w n :=
  ⟨ok, fun f fv e => (by cases e), fun k hk => (by cases hk), fun hn => absurd hn (Nat.lt_irrefl _), fun cap t e => by
    rcases hw with rfl | ⟨e', rfl, rfl⟩
    · cases e
    · cases e; exact ⟨rfl, Nat.le_refl _, fun h => absurd h (Nat.lt_irrefl _)⟩⟩
def freshD (H : HH) (e : TypeId) (ei : TI) {α : Type} (d : DT α) (xs : List α) (K : AV → HH → Prop) : Prop :=
  roomL ei xs.length ∧ ∀ a n c S, xs.length ≤ c → emptyOk a n xs.length c → K (.os H.length a n 0 0 ei.sz xs.length c) (H ++ [⟨n, .dl α d 0 xs S (some (c, e)) none, true⟩])
def appendD (tab : Tab) (H : HH) {α : Type} (d : DT α) (at_ : List TypeId) (args : List AV) (K : AV → HH → Prop) : Prop :=
  match at_, args with
  | [t, tx], [s, x] =>
    match tab.get t with
    | some ⟨_, _, _, .slice e, _⟩ =>
      (match tab.get e with
       | some ei => ck (Nat.beq ei.sz d.sz) <|
         match s with
         | .v (.slice _ len cap) => ck (Nat.beq len 0 && Nat.beq cap 0) <| srcD tab H d tx x fun xs => freshD H e ei d xs K
         | .sl _ _ _ _ len cap => ck (Nat.beq len 0 && Nat.beq cap 0) <| srcD tab H d tx x fun xs => freshD H e ei d xs K
         | .os id a n o r sz len cap =>
           (match nth H id with
            | some ⟨m, .dl β d' _ l _ (some (c0, ty)) _, true⟩ => ck (Nat.beq sz ei.sz && Nat.beq d'.sz sz && Nat.beq e ty) <| srcD tab H d' tx x fun xs => n = m ∧ o = 0 ∧ r = 0 ∧ len ≤ l.length ∧ cap ≤ c0 ∧ emptyOk a n len cap ∧ len ≤ cap ∧ roomL ei (len + xs.length) ∧
                ∀ a' n' c' S', len + xs.length ≤ c' → emptyOk a' n' (len + xs.length) c' → K (.os id a' n' 0 0 sz (len + xs.length) c') (H.set id ⟨n', .dl β d' 0 (l.take len ++ xs) S' (some (c', e)) none, true⟩)
            | some ⟨m, .dl β d' o' l _ _ _, _⟩ => ck (Nat.beq sz ei.sz && Nat.beq d'.sz sz) <| srcD tab H d' tx x fun xs => n = m ∧ o = o' ∧ r + len ≤ l.length ∧ cap = len ∧ roomL ei (len + xs.length) ∧
                br (Nat.beq xs.length 0) (K (.os id a n o r sz len cap) H)
                  (∀ a' n' c' S', len + xs.length ≤ c' → emptyOk a' n' (len + xs.length) c' → K (.os H.length a' n' 0 0 sz (len + xs.length) c') (H ++ [⟨n', .dl β d' 0 ((l.drop r).take len ++ xs) S' (some (c', e)) none, true⟩]))
            | _ => False)
         | _ => False
       | none => False)
    | _ => False
  | _, _ => False
section
variable {P : Program} {tab : Tab} {w0 : World} {fp H : HH} {w : World}
theorem growD (ht : TabOk P tab) (hh : HeapOk w0 fp H w) {t tx ty e : Nat} {ei : TI} (hte : P.underlying t = some (.slice e)) (hei : tab.get e = some ei) {α : Type} {d : DT α} (ok : d.Ok) (hsz : d.sz = ei.sz)
    {len cap k : Nat} {l' : List α} (hl' : l'.length = len + k) (hroom : roomL ei (len + k)) (hg : cap < len + k) {a : Option Addr} {x : AV} {news : List Value} (hs : Src P ei.sz tx x.den k news w)
    {olds : List Value} (hol : olds.length = len * ei.sz) (hold : (Builtin.firstCells ei.sz len (.slice a len cap)).run P w.drew = .ok olds.toArray w.drew)
    (hrow : ∀ i, i < len + k → ∀ j c, (d.enc (dAt l' d.z i))[j]? = some c → (olds ++ news)[i * ei.sz + j]? = some c.den) :
    ∃ n C w', len + k ≤ C ∧ HeapOk w0 fp (H ++ [⟨n, .dl α d 0 l' [n] (some (C, e)) none, true⟩]) w' ∧ (Builtin.append_ #[t, tx] ty #[.slice a len cap, x.den]).run P w = .ok (.slice (some ⟨n, 0, none⟩) (len + k) C) w' := by
  obtain ⟨h1, h2⟩ := hroom
  have h2 := growslice_fits_wide hg h2
  obtain ⟨info, hx, hxz, hxs, hxb⟩ := (ht.get hei).info'
  have hzl := (ht.get hei).zsz
  have hzc := AV.cells_den (ht.get hei).zok
  have hzc' : ei.zero.den.cells = (denL ei.zero.cells).toArray := by rw [← hzc]
  have hrun := run_append_grow_src w t tx ty e info ei.zero.den hte hx hxz a len cap olds (by rw [hxs]; exact hold) x.den k news (by rw [hxs]; exact hs) hg (by omega) (by rw [hxb]; exact h2)
  have hcap := grownCap_ge w (len + k) cap e
  generalize grownCap w (len + k) cap e = C at hrun hcap
  have hh1 : HeapOk w0 fp H w.drew := hh.same { heap := rfl, os := rfl, tape := rfl, output := rfl }
  refine ⟨w.heap.size, C, _, hcap, hh1.alloc (.cells ((olds ++ news).toArray ++ Builtin.zeroCells ei.zero.den.cells (C - (len + k))) e) _ ?_, hrun⟩
  have hL : ((olds ++ news).toArray ++ Builtin.zeroCells ei.zero.den.cells (C - (len + k))).toList = olds ++ news ++ denL (newCells ei.zero.cells (C - (len + k))) := by
    rw [Array.toList_append, hzc', zeroCells_den]
  have hat : (w.drew.alloc (.cells ((olds ++ news).toArray ++ Builtin.zeroCells ei.zero.den.cells (C - (len + k))) e)).heap[w.drew.heap.size]? = some (.cells (olds ++ news ++ denL (newCells ei.zero.cells (C - (len + k)))).toArray e (0, 0)) := by
    rw [← hL, Array.toArray_toList]
    exact alloc_at w.drew _
  have hlen : (olds ++ news).length = (len + k) * ei.sz := by rw [List.length_append, hol, hs.newsLen, Nat.add_mul]
  refine ⟨ok, fun f fv e => (by cases e), fun q hq => ?_, fun _ => ⟨List.mem_singleton.2 rfl, _, _, _, hat, fun i hi j y hy => ?_⟩, fun cap' ty' e' => ?_⟩
  · cases List.mem_singleton.1 hq; exact lt_of_some hat
  · rw [hl'] at hi
    have := hrow i hi j y hy
    rw [Nat.zero_add, hsz, List.getElem?_append, if_pos (List.getElem?_eq_some_iff.1 this).1]
    exact this
  · cases e'
    refine ⟨rfl, by omega, fun _ => ⟨List.mem_singleton.2 rfl, _, Held.plain hat, ?_⟩⟩
    have : C = len + k + (C - (len + k)) := by omega
    rw [List.length_append, hlen, denL_length, newCells_length, hzl, hsz, ← Nat.add_mul, ← this]
    exact Nat.le_refl _
theorem freshD_sound (ht : TabOk P tab) (hh : HeapOk w0 fp H w) {t tx ty e : Nat} {ei : TI} (hte : P.underlying t = some (.slice e)) (hei : tab.get e = some ei) {α : Type} {d : DT α} (ok : d.Ok) (hsz : d.sz = ei.sz) {xs : List α} {K : AV → HH → Prop} (h : freshD H e ei d xs K) (a0 : Option Addr)
    {x : AV} {news : List Value} (hs : Src P ei.sz tx x.den xs.length news w) (hnew : ∀ i, i < xs.length → ∀ j c, (d.enc (dAt xs d.z i))[j]? = some c → news[i * ei.sz + j]? = some c.den) :
    ∃ v H' w', K v H' ∧ HeapOk w0 fp H' w' ∧ (Builtin.append_ #[t, tx] ty #[.slice a0 0 0, x.den]).run P w = .ok v.den w' := by
  obtain ⟨info, hx, hxz, hxs, hxb⟩ := (ht.get hei).info'
  obtain ⟨hroom, h⟩ := h
  by_cases hk0 : xs.length = 0
  · obtain rfl := List.length_eq_zero_iff.1 hk0
    have hn0 : news = [] := List.eq_nil_of_length_eq_zero (by rw [hs.newsLen]; simp)
    subst hn0
    have hs' : Src P info.size tx x.den 0 [] w := by rw [hxs]; exact hs
    have hrun := run_append_nothing w t tx ty e info hte hx a0 0 0 (Nat.le_refl _) x.den hs'
    exact ⟨_, _, w, h a0 0 0 [] (Nat.le_refl _) (fun _ => .inl rfl), hh.more ⟨0, .dl α d 0 [] [] (some (0, e)) none, true⟩ rfl (dl_nil ok (.inr ⟨_, rfl, rfl⟩)), by simpa [AV.den] using hrun⟩
  · obtain ⟨n, C, w', g1, g2, g3⟩ := growD (ty := ty) ht hh hte hei ok hsz (len := 0) (cap := 0) (k := xs.length) (l' := xs) (by omega) (by rw [Nat.zero_add]; exact hroom) (by omega) (a := a0) hs (olds := []) (by simp) (by
      cases a0 with
      | none => exact run_firstCells_none w.drew ei.sz 0 0 0
      | some b => exact run_firstCells_some w.drew ei.sz 0 b 0 0 [] (by simp) (fun j u hu => by simp at hu)) (fun i hi j c hc => by rw [List.nil_append]; exact hnew i (by omega) j c hc)
    rw [Nat.zero_add] at g1 g3
    exact ⟨_, _, w', h none n C [n] g1 (fun e => absurd e hk0), g2, by rw [g3]; simp [AV.den, hk0]⟩
theorem firsts {α : Type} {d : DT α} (ok : d.Ok) {n o : Nat} {l : List α} {S : List Nat} {wr : Option (Nat × TypeId)} {foc : Option (Nat × List AV)} (hw : (Cont.dl α d o l S wr foc).holds w n) {a : Option Addr} {r len cap : Nat} (hr : r + len ≤ l.length) :
    ∃ olds : List Value, olds.length = len * d.sz ∧ (Builtin.firstCells d.sz len (.slice (if len = 0 then a else some ⟨n, o + r * d.sz, none⟩) len cap)).run P w.drew = .ok olds.toArray w.drew ∧ ∀ i, i < len → ∀ j c, (d.enc (dAt l d.z (r + i)))[j]? = some c → olds[i * d.sz + j]? = some c.den := by
  by_cases hl : len = 0
  · subst hl
    refine ⟨[], by simp, ?_, fun i hi => absurd hi (Nat.not_lt_zero _)⟩
    rw [if_pos rfl]
    cases a with
    | none => exact run_firstCells_none w.drew d.sz 0 0 cap
    | some b => exact run_firstCells_some w.drew d.sz 0 b 0 cap [] (by simp) (fun j u hu => by simp at hu)
  · rw [if_neg hl]
    obtain ⟨_, c, tyc, fz, g2, g3⟩ := hw.2.2.2.1 (by omega)
    have hrow0 : ∀ i, i < len → ∀ j y, (d.enc (dAt l d.z (r + i)))[j]? = some y → c[o + r * d.sz + (i * d.sz + j)]? = some y.den := by
      intro i hi j y hy
      have := g3 (r + i) (by omega) j y hy
      rw [Nat.add_mul] at this
      rw [← this]
      congr 1
      omega
    have hin : ∀ p, p < len * d.sz → ∃ y, c[o + r * d.sz + p]? = some y := fun p hp => by
      obtain ⟨q1, q2, q3⟩ := mul_split hp
      have hy : ∃ y, (d.enc (dAt l d.z (r + p / d.sz)))[p % d.sz]? = some y := ⟨_, List.getElem?_eq_getElem (by rw [ok.len]; exact q2)⟩
      obtain ⟨y, hy⟩ := hy
      have := hrow0 _ q1 _ y hy
      rw [← q3] at this
      exact ⟨_, this⟩
    have hlen : ((c.drop (o + r * d.sz)).take (len * d.sz)).length = len * d.sz := by
      rw [List.length_take, List.length_drop]
      rcases Nat.eq_zero_or_pos (len * d.sz) with h0 | h0
      · omega
      · obtain ⟨y, hy⟩ := hin (len * d.sz - 1) (by omega)
        have := (List.getElem?_eq_some_iff.1 hy).1
        omega
    refine ⟨(c.drop (o + r * d.sz)).take (len * d.sz), hlen, ?_, fun i hi j y hy => ?_⟩
    · refine run_firstCells_some w.drew d.sz len ⟨n, o + r * d.sz, none⟩ len cap _ hlen (fun j u hu => ?_)
      have hj : j < len * d.sz := by
        rcases Nat.lt_or_ge j (len * d.sz) with h1 | h1
        · exact h1
        · rw [List.getElem?_eq_none (by rw [hlen]; exact h1)] at hu; cases hu
      rw [List.getElem?_take, if_pos hj, List.getElem?_drop] at hu
      rw [addr_add]
      have g2' : w.drew.heap[n]? = some (.cells c.toArray tyc fz) := g2
      simp [World.cell?, g2', hu]
    · have hj : j < d.sz := by
        rcases Nat.lt_or_ge j d.sz with h1 | h1
        · exact h1
        · rw [List.getElem?_eq_none (by rw [ok.len]; exact h1)] at hy; cases hy
      rw [List.getElem?_take, if_pos (row_idx hi hj), List.getElem?_drop]
      exact hrow0 i hi j y hy
set_option maxHeartbeats 1000000 in
theorem appendD_sound (ht : TabOk P tab) (hh : HeapOk w0 fp H w) {at_ : Array TypeId} {args : List AV} {α : Type} {d : DT α} (ok : d.Ok) {K : AV → HH → Prop} (h : appendD tab H d at_.toList args K) (ty : TypeId) :
    ∃ v H' w', K v H' ∧ HeapOk w0 fp H' w' ∧ (Builtin.append_ at_ ty (denL args).toArray).run P w = .ok v.den w' := by
  unfold appendD at h
  split at h
  · rename_i t tx s x hat
    have hat' : at_ = #[t, tx] := by apply Array.ext'; simpa using hat
    subst hat'
    split at h
    · rename_i e _ htt
      have hte := (ht.get htt).desc
      simp only [DescOk] at hte
      split at h
      · rename_i ei hei
        obtain ⟨info, hx, hxz, hxs, hxb⟩ := (ht.get hei).info'
        have g_ := ck_spec h
        clear h
        obtain ⟨hsz, h⟩ := g_
        have hsz := (Nat.eq_of_beq_eq_true hsz).symm
        split at h
        · rename_i a0 len cap
          have g_ := ck_spec h
          clear h
          obtain ⟨hz, h⟩ := g_
          simp only [Bool.and_eq_true] at hz
          obtain rfl := Nat.eq_of_beq_eq_true hz.1
          obtain rfl := Nat.eq_of_beq_eq_true hz.2
          obtain ⟨xs, g0, news, hs, hnew⟩ := srcD_sound ht hh.hp ok h
          rw [hsz] at hs hnew
          obtain ⟨v, H', w', k1, k2, k3⟩ := freshD_sound (ty := ty) ht hh hte hei ok hsz g0 a0 hs hnew
          exact ⟨v, H', w', k1, k2, by simpa [denL, AV.den] using k3⟩
        · rename_i id n r sz len cap
          have g_ := ck_spec h
          clear h
          obtain ⟨hz, h⟩ := g_
          simp only [Bool.and_eq_true] at hz
          obtain rfl := Nat.eq_of_beq_eq_true hz.1
          obtain rfl := Nat.eq_of_beq_eq_true hz.2
          obtain ⟨xs, g0, news, hs, hnew⟩ := srcD_sound ht hh.hp ok h
          rw [hsz] at hs hnew
          obtain ⟨v, H', w', k1, k2, k3⟩ := freshD_sound (ty := ty) ht hh hte hei ok hsz g0 (some ⟨n, r * sz, none⟩) hs hnew
          exact ⟨v, H', w', k1, k2, by simpa [denL, AV.den] using k3⟩
        · rename_i id a n o r sz len cap
          split at h
          · rename_i m β d' o' l S c0 tyb foc hb
            have g_ := ck_spec h
            clear h
            obtain ⟨hcs, h⟩ := g_
            simp only [Bool.and_eq_true] at hcs
            obtain ⟨⟨hsz1, hcs⟩, hte2⟩ := hcs
            obtain rfl := Nat.eq_of_beq_eq_true hsz1
            have hcs := Nat.eq_of_beq_eq_true hcs
            obtain rfl := Nat.eq_of_beq_eq_true hte2
            rw [nth_eq] at hb
            have hall := hh.hp.all id _ hb
            have ok' := hall.1
            obtain ⟨xs, g0, news, hs, hnew⟩ := srcD_sound ht hh.hp ok' h
            clear h
            obtain ⟨rfl, rfl, rfl, hlN, hc0, hem, hlc, hroom, h⟩ := g0
            obtain ⟨_, _, h1, h2, h3⟩ := hall
            obtain ⟨ho', hNc, hrow⟩ := h3 c0 e rfl
            subst ho'
            rw [hcs] at hs hnew h2 hrow
            have hs' : Src P info.size tx x.den xs.length news w := by rw [hxs]; exact hs
            have hid : id < H.length := (List.getElem?_eq_some_iff.1 hb).1
            have hlt : (l.take len ++ xs).length = len + xs.length := by simp; omega
            have hdat : ∀ i, i < len + xs.length → dAt (l.take len ++ xs) d'.z i = if i < len then dAt l d'.z i else dAt xs d'.z (i - len) := fun i hi => by
              rw [dAt_append, List.length_take, Nat.min_eq_left hlN]
              split
              · unfold dAt; rw [List.getElem?_take, if_pos (by assumption)]
              · rfl
            by_cases hk0 : xs.length = 0
            · -- nothing is appended
              obtain rfl := List.length_eq_zero_iff.1 hk0
              have hn0 : news = [] := List.eq_nil_of_length_eq_zero (by rw [hs.newsLen]; simp)
              subst hn0
              have hrun := run_append_nothing w t tx ty e info hte hx (if len = 0 then a else some ⟨n, 0 + 0 * ei.sz, none⟩) len cap hlc x.den hs'
              refine ⟨_, _, w, h a n cap S (by simpa using hlc) (by simpa using hem), ?_, by simpa [denL, AV.den] using hrun⟩
              refine hh.put (H := H) (id := id) (j := id) hb (fun i d hne hd => ⟨hd, hne⟩) rfl rfl (fun hl => ?_)
              refine ⟨ok', fun f fv e => (by cases e), h1, fun hn => ?_, fun cap' ty' e' => ?_⟩
              · rw [hlt] at hn
                obtain ⟨g1, c, tyc, fz, g2, g3⟩ := h2 (by simp at hn; omega)
                refine ⟨g1, c, tyc, fz, g2, fun i hi j y hy => ?_⟩
                rw [hlt] at hi
                change (d'.enc (dAt _ d'.z i))[j]? = some y at hy
                rw [hdat i hi, if_pos (by simpa using hi)] at hy
                rw [hcs]
                exact g3 i (by simp at hi; omega) j y hy
              · cases e'
                refine ⟨rfl, by rw [hlt]; simpa using hlc, fun hc => ?_⟩
                obtain ⟨g1, c, g2, g3⟩ := hrow (by omega)
                exact ⟨g1, c, g2, Nat.le_trans (Nat.mul_le_mul_right _ hc0) (by rw [hcs]; exact g3)⟩
            by_cases hfit : len + xs.length ≤ cap
            · -- it fits
              obtain ⟨g1, c, hc, hcl⟩ := hrow (by omega)
              have hadr : (if len = 0 then a else some ⟨n, 0 + 0 * ei.sz, none⟩) = some ⟨n, 0, none⟩ := by
                by_cases hl : len = 0
                · rw [if_pos hl]
                  rcases hem hl with h0 | h0
                  · omega
                  · exact h0
                · rw [if_neg hl]; simp
              have hmul : (len + xs.length) * ei.sz ≤ c0 * ei.sz := Nat.mul_le_mul_right _ (by omega)
              rw [Nat.add_mul] at hmul
              have hnl' := hs.newsLen
              have hst := stored_setCells (P := P) (o := len * ei.sz) (xs := news) hc (by omega) hs.one
              have hrun := run_append_room_src w t tx ty e info hte hx n 0 len cap x.den xs.length news hs' hfit
                (fun j hj => by rw [hxs, Nat.zero_add, cell_of hc]; simp; omega) (fun j hj => by rw [hxs, Nat.zero_add]; exact frozen_of hc _ (by omega))
              rw [hxs, Nat.zero_add] at hrun
              refine ⟨_, _, w.setCells n (len * ei.sz) news, h (some ⟨n, 0, none⟩) n cap S hfit (fun _ => .inr rfl), ?_, ?_⟩
              · refine hh.turnS hb rfl _ rfl ?_ n g1 hst.os hst.tape hst.output hst.size hst.block
                have hat2 := hst.at_
                obtain ⟨fz, hat3, hfz⟩ := hat2
                have hw3 : ∀ cap' ty', some (cap, e) = some (cap', ty') → 0 = 0 ∧ (l.take len ++ xs).length ≤ cap' ∧ (0 < cap' → n ∈ S ∧ ∃ c : List Value, Held (w.setCells n (len * ei.sz) news) n c ty' ∧ cap' * d'.sz ≤ c.length) := fun cap' ty' e' => by
                  cases e'
                  exact ⟨rfl, by rw [hlt]; exact hfit, fun _ => ⟨g1, _, ⟨fz, hat3, hfz⟩, Nat.le_trans (Nat.mul_le_mul_right _ hc0) (by rw [hcs]; simpa using hcl)⟩⟩
                refine ⟨ok', fun f fv e => (by cases e), fun k hk => by rw [hst.size]; exact h1 k hk, fun _ => ⟨g1, _, _, _, hat3, fun i hi j y hy => ?_⟩, hw3⟩
                rw [hlt] at hi
                change (d'.enc (dAt _ d'.z i))[j]? = some y at hy
                have hj : j < ei.sz := by
                  rcases Nat.lt_or_ge j ei.sz with h1 | h1
                  · exact h1
                  · rw [List.getElem?_eq_none (by rw [ok'.len, hcs]; exact h1)] at hy; cases hy
                rw [hcs, Nat.zero_add]
                have hib : i * ei.sz + j < cap * ei.sz := row_idx (by omega) hj
                rw [spliceV_get _ _ _ _ (by omega), hnl']
                rw [hdat i hi] at hy
                by_cases hq1 : i < len
                · rw [if_pos hq1] at hy
                  have : (i + 1) * ei.sz ≤ len * ei.sz := Nat.mul_le_mul_right _ hq1
                  rw [Nat.add_mul] at this
                  rw [if_neg (by omega)]
                  obtain ⟨_, c2, tyc, fz2, g2, g3⟩ := h2 (by omega)
                  have hcc : c2 = c := by
                    obtain ⟨fz4, hc4, _⟩ := hc
                    have := g2.symm.trans hc4
                    simp only [Option.some.injEq, Obj.cells.injEq] at this
                    exact Array.toList_inj.2 this.1 |>.trans rfl |> fun e => by simpa using e
                  subst hcc
                  have := g3 i (by omega) j y hy
                  rw [Nat.zero_add] at this
                  exact this
                · rw [if_neg hq1] at hy
                  obtain ⟨q, rfl⟩ : ∃ q, i = len + q := ⟨i - len, by omega⟩
                  have hd : q < xs.length := by omega
                  have hi := row_idx hd hj
                  have e1 : (len + q) * ei.sz + j = len * ei.sz + (q * ei.sz + j) := by rw [Nat.add_mul]; omega
                  rw [e1, if_pos (by omega), show len * ei.sz + (q * ei.sz + j) - len * ei.sz = q * ei.sz + j by omega]
                  rw [show len + q - len = q by omega] at hy
                  exact hnew q hd j y hy
              · simp only [denL, AV.den, hadr]
                rw [hrun]
                simp
            · -- it grows
              have hall : (Cont.dl β d' 0 l S (some (c0, e)) foc).holds w n := hh.hp.all id _ hb
              obtain ⟨olds, ol1, ol2, ol3⟩ := firsts (P := P) ok' hall (a := a) (r := 0) (len := len) (cap := cap) (by omega)
              rw [hcs] at ol1 ol2 ol3
              obtain ⟨n', C, w', q1, q2, q3⟩ := growD (ty := ty) ht hh hte hei ok' hcs (len := len) (cap := cap) (k := xs.length) (l' := l.take len ++ xs) hlt hroom (by omega) hs ol1 ol2 (fun i hi j y hy => by
                have hj : j < ei.sz := by
                  rcases Nat.lt_or_ge j ei.sz with h1 | h1
                  · exact h1
                  · rw [List.getElem?_eq_none (by rw [ok'.len, hcs]; exact h1)] at hy; cases hy
                rw [hdat i hi] at hy
                rw [List.getElem?_append, ol1]
                by_cases c1 : i < len
                · rw [if_pos (row_idx c1 hj)]
                  rw [if_pos c1] at hy
                  exact ol3 i c1 j y (by rw [Nat.zero_add]; exact hy)
                · rw [if_neg c1] at hy
                  have e1 : len * ei.sz ≤ i * ei.sz := Nat.mul_le_mul_right _ (by omega)
                  rw [if_neg (by omega)]
                  obtain ⟨q, rfl⟩ : ∃ q, i = len + q := ⟨i - len, by omega⟩
                  have e2 : (len + q) * ei.sz + j - len * ei.sz = q * ei.sz + j := by rw [Nat.add_mul]; omega
                  rw [e2]
                  rw [show len + q - len = q by omega] at hy
                  exact hnew q (by omega) j y hy)
              refine ⟨_, _, w', h none n' C [n'] q1 (fun e => by omega), ?_, ?_⟩
              · exact q2.put (H := H) (id := id) (j := H.length) (b' := ⟨n', .dl β d' 0 (l.take len ++ xs) [n'] (some (C, e)) none, true⟩) (b'' := ⟨n', .dl β d' 0 (l.take len ++ xs) [n'] (some (C, e)) none, true⟩) (by simp) (fun i d hne hd => ⟨by rw [List.getElem?_append_left (List.getElem?_eq_some_iff.1 hd).1]; exact hd, fun h => by have := (List.getElem?_eq_some_iff.1 hd).1; omega⟩) rfl rfl (fun hr => hr)
              · simp only [denL, AV.den]
                rw [q3]
                rw [if_neg (by omega)]
                simp
          · rename_i m β d' o' l S wr foc own hnot hb
            have g_ := ck_spec h
            clear h
            obtain ⟨hcs, h⟩ := g_
            simp only [Bool.and_eq_true] at hcs
            obtain ⟨hsz1, hcs⟩ := hcs
            obtain rfl := Nat.eq_of_beq_eq_true hsz1
            have hcs := Nat.eq_of_beq_eq_true hcs
            rw [nth_eq] at hb
            have hall := hh.hp.all id _ hb
            have ok' := hall.1
            obtain ⟨xs, g0, news, hs, hnew⟩ := srcD_sound ht hh.hp ok' h
            clear h
            obtain ⟨rfl, rfl, hrl, rfl, hroom, h⟩ := g0
            rw [hcs] at hs hnew
            have hs' : Src P info.size tx x.den xs.length news w := by rw [hxs]; exact hs
            by_cases hk0 : xs.length = 0
            · obtain rfl := List.length_eq_zero_iff.1 hk0
              have hn0 : news = [] := List.eq_nil_of_length_eq_zero (by rw [hs.newsLen]; simp)
              subst hn0
              have hrun := run_append_nothing w t tx ty e info hte hx (if cap = 0 then a else some ⟨n, o + r * ei.sz, none⟩) cap cap (Nat.le_refl _) x.den hs'
              exact ⟨_, _, w, h, hh, by simpa [denL, AV.den] using hrun⟩
            · have hne : Nat.beq xs.length 0 = false := by
                cases hq : Nat.beq xs.length 0 with
                | false => rfl
                | true => exact absurd (Nat.eq_of_beq_eq_true hq) hk0
              rw [hne] at h
              simp only [br_false] at h
              have hlt : ((l.drop r).take cap ++ xs).length = cap + xs.length := by simp; omega
              have hdat : ∀ i, i < cap + xs.length → dAt ((l.drop r).take cap ++ xs) d'.z i = if i < cap then dAt l d'.z (r + i) else dAt xs d'.z (i - cap) := fun i hi => by
                rw [dAt_append, List.length_take, List.length_drop, Nat.min_eq_left (by omega)]
                split
                · rename_i hlt; exact dAt_sub hlt
                · rfl
              obtain ⟨olds, ol1, ol2, ol3⟩ := firsts (P := P) ok' hall (a := a) (r := r) (len := cap) (cap := cap) hrl
              rw [hcs] at ol1 ol2 ol3
              obtain ⟨n', C, w', q1, q2, q3⟩ := growD (ty := ty) ht hh hte hei ok' hcs (len := cap) (cap := cap) (k := xs.length) (l' := (l.drop r).take cap ++ xs) hlt hroom (by omega) hs ol1 ol2 (fun i hi j y hy => by
                have hj : j < ei.sz := by
                  rcases Nat.lt_or_ge j ei.sz with h1 | h1
                  · exact h1
                  · rw [List.getElem?_eq_none (by rw [ok'.len, hcs]; exact h1)] at hy; cases hy
                rw [hdat i hi] at hy
                rw [List.getElem?_append, ol1]
                by_cases c1 : i < cap
                · rw [if_pos (row_idx c1 hj)]
                  rw [if_pos c1] at hy
                  exact ol3 i c1 j y hy
                · rw [if_neg c1] at hy
                  have e1 : cap * ei.sz ≤ i * ei.sz := Nat.mul_le_mul_right _ (by omega)
                  rw [if_neg (by omega)]
                  obtain ⟨q, rfl⟩ : ∃ q, i = cap + q := ⟨i - cap, by omega⟩
                  have e2 : (cap + q) * ei.sz + j - cap * ei.sz = q * ei.sz + j := by rw [Nat.add_mul]; omega
                  rw [e2]
                  rw [show cap + q - cap = q by omega] at hy
                  exact hnew q (by omega) j y hy)
              refine ⟨_, _, w', h none n' C [n'] q1 (fun e => by omega), q2, ?_⟩
              simp only [denL, AV.den]
              rw [q3]
              rw [if_neg (by omega)]
              simp
          · exact h.elim
        · exact h.elim
      · exact h.elim
    · exact h.elim
  · exact h.elim
end
end Go.Eng
