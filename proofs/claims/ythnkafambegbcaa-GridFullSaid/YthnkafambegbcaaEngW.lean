import Derived.Test.YthnkafambegbcaaEngV
set_option linter.unusedSimpArgs false
set_option linter.unusedVariables false
namespace Go.Eng
open Go Go.Sp
def roomL (ei : TI) (n : Nat) : Prop := n ≤ 9223372036854775807 ∧ (n + n / 4 + 192) * ei.bytes ≤ 281474976710656
def emptyOk (a : Option Addr) (n len cap : Nat) : Prop := len = 0 → cap = 0 ∨ a = some ⟨n, 0, none⟩
theorem rows_lst {w : World} {m N c : Nat} {cs : List Col} {ty : TypeId} (h : (Cont.rows c cs ty).holds w m) (hN : N ≤ c) : (Cont.lst 0 N cs [m] (some (c, ty))).holds w m := by
  obtain ⟨l, hl, hlen, hcc⟩ := h
  have hlt : m < w.heap.size := by obtain ⟨_, h, _⟩ := hl; exact lt_of_some h
  refine ⟨fun k hk => by rw [List.mem_singleton] at hk; subst hk; exact hlt, fun hn => ⟨by simp, ?_⟩, fun cap t e => ?_⟩
  · obtain ⟨fz, h1, _⟩ := hl
    exact ⟨l, ty, fz, h1, fun i hi j x hx => by rw [Nat.zero_add]; exact hcc i (by omega) j x hx⟩
  · cases e
    exact ⟨rfl, hN, fun _ => ⟨by simp, l, hl, hlen⟩⟩
def freshK (H : HH) (e : TypeId) (ei : TI) (k : Nat) (new : List Col) (K : AV → HH → Prop) : Prop :=
  roomL ei k ∧ (match joinCols 0 k (zcols ei.zero.cells) new ei.zero.cells with
   | some cs => ∀ a n c S, k ≤ c → emptyOk a n k c → K (.os H.length a n 0 0 ei.sz k c) (H ++ [⟨n, .lst 0 k cs S (some (c, e)), true⟩])
   | none => False)
def appendL (tab : Tab) (H : HH) (at_ : List TypeId) (args : List AV) (K : AV → HH → Prop) : Prop :=
  match at_, args with
  | [t, tx], [s, x] =>
    match tab.get t with
    | some ⟨_, _, _, .slice e, _⟩ =>
      (match tab.get e with
       | some ei => srcK tab H ei.sz tx x fun k new =>
         match s with
         | .v (.slice _ len cap) => ck (Nat.beq len 0 && Nat.beq cap 0) (freshK H e ei k new K)
         | .sl _ _ _ _ len cap => ck (Nat.beq len 0 && Nat.beq cap 0) (freshK H e ei k new K)
         | .os id a n o r sz len cap =>
           (match nth H id with
            | some ⟨m, .lst _ N cs _ (some (c0, ty)), true⟩ => ck (Nat.beq sz ei.sz && Nat.beq cs.length sz && Nat.beq e ty) <| n = m ∧ o = 0 ∧ r = 0 ∧ len ≤ N ∧ cap = c0 ∧ emptyOk a n len cap ∧ roomL ei (len + k) ∧
              (match joinCols len k cs new ei.zero.cells with
               | some js => ∀ a' n' c' S', len + k ≤ c' → emptyOk a' n' (len + k) c' → K (.os id a' n' 0 0 sz (len + k) c') (H.set id ⟨n', .lst 0 (len + k) js S' (some (c', e)), true⟩)
               | none => False)
            | _ => False)
         | _ => False
       | none => False)
    | _ => False
  | _, _ => False
def canList (H : HH) (vs : List AV) : Bool :=
  match vs with
  | [.v (.slice _ _ _), _] => true
  | [.sl _ _ _ _ 0 0, _] => true
  | [.os _ _ _ _ _ _ _ _, _] => true
  | _ => false
section
variable {P : Program} {tab : Tab} {w0 : World} {fp H : HH} {w : World}
theorem freshK_sound (ht : TabOk P tab) (hh : HeapOk w0 fp H w) {t tx ty e : Nat} {ei : TI} (hte : P.underlying t = some (.slice e)) (hei : tab.get e = some ei) {k : Nat} {new : List Col} {K : AV → HH → Prop} (h : freshK H e ei k new K) (a0 : Option Addr)
    {x : AV} {news : List Value} (hs : Src P ei.sz tx x.den k news w) (hnew : ∀ i, i < k → ∀ j c, (rowOf new i)[j]? = some c → news[i * ei.sz + j]? = some c.den) :
    ∃ v H' w', K v H' ∧ HeapOk w0 fp H' w' ∧ (Builtin.append_ #[t, tx] ty #[.slice a0 0 0, x.den]).run P w = .ok v.den w' := by
  obtain ⟨info, hx, hxz, hxs, hxb⟩ := (ht.get hei).info'
  obtain ⟨hroom, h⟩ := h
  by_cases hk0 : k = 0
  · subst hk0
    have hn0 : news = [] := List.eq_nil_of_length_eq_zero (by rw [hs.newsLen]; simp)
    subst hn0
    have hs' : Src P info.size tx x.den 0 [] w := by rw [hxs]; exact hs
    have hrun := run_append_nothing w t tx ty e info hte hx a0 0 0 (Nat.le_refl _) x.den hs'
    split at h
    · rename_i cs hcs
      have hb0 : (Cont.lst 0 0 cs [] (some (0, e))).holds w 0 := ⟨fun k hk => (by cases hk), fun hn => absurd hn (Nat.lt_irrefl _), fun cap t e => (by cases e; exact ⟨rfl, Nat.le_refl _, fun h => absurd h (Nat.lt_irrefl _)⟩)⟩
      exact ⟨_, _, w, h a0 0 0 [] (Nat.le_refl _) (fun _ => .inl rfl), hh.more ⟨0, .lst 0 0 cs [] (some (0, e)), true⟩ rfl hb0, by simpa [AV.den] using hrun⟩
    · exact h.elim
  · have hg : growK H e ei 0 0 k (zcols ei.zero.cells) new fun v H' => ∃ v'' H'', v''.den = v.den ∧ K v'' H'' ∧ ∀ w', HeapOk w0 fp H' w' → HeapOk w0 fp H'' w' := by
      unfold growK
      rw [Nat.zero_add]
      refine ⟨hroom, ?_⟩
      split at h
      · rename_i cs hcs
        rw [hcs]
        intro m c hc
        refine ⟨_, _, ?_, h none m c [m] hc (fun e => absurd e hk0), fun w' hw => ?_⟩
        · simp [AV.den, hk0]
        · have := hw.put (H := H ++ [⟨m, .rows c cs e, true⟩]) (id := H.length) (j := H.length) (b' := ⟨m, .rows c cs e, true⟩) (b'' := ⟨m, .lst 0 k cs [m] (some (c, e)), true⟩) (by simp) (fun i d hne hd => ⟨hd, hne⟩) rfl rfl (fun hr => rows_lst hr hc)
          simpa using this
      · exact h.elim
    obtain ⟨v, H', w', ⟨v'', H'', e1, e2, e3⟩, h2, h3, _⟩ := growK_sound (ty := ty) ht hh hte hei hg (by omega) (a := a0) hs hnew (olds := []) (by simp) (by
      cases a0 with
      | none => exact run_firstCells_none w.drew ei.sz 0 0 0
      | some b => exact run_firstCells_some w.drew ei.sz 0 b 0 0 [] (by simp) (fun j u hu => by simp at hu)) (fun i hi => by omega)
    exact ⟨v'', H'', w', e2, e3 w' h2, by rw [h3, e1]⟩
set_option maxHeartbeats 1000000 in
theorem appendL_sound (ht : TabOk P tab) (hh : HeapOk w0 fp H w) {at_ : Array TypeId} {args : List AV} {K : AV → HH → Prop} (h : appendL tab H at_.toList args K) (ty : TypeId) :
    ∃ v H' w', K v H' ∧ HeapOk w0 fp H' w' ∧ (Builtin.append_ at_ ty (denL args).toArray).run P w = .ok v.den w' := by
  unfold appendL at h
  split at h
  · rename_i t tx s x hat
    have hat' : at_ = #[t, tx] := by apply Array.ext'; simpa using hat
    subst hat'
    split at h
    · rename_i e _ htt
      have hte := (ht.get htt).desc
      simp only [DescOk] at hte
      split at h
      · rename_i ei hei
        obtain ⟨info, hx, hxz, hxs, hxb⟩ := (ht.get hei).info'
        obtain ⟨k, new, g0, hnl, hsrc⟩ := srcK_sound ht h
        clear h
        have h := g0
        clear g0
        obtain ⟨news, hs, hnew⟩ := hsrc w hh.hp
        have hs' : Src P info.size tx x.den k news w := by rw [hxs]; exact hs
        clear hsrc
        split at h
        · rename_i a0 len cap
          have g_ := ck_spec h
          clear h
          obtain ⟨hz, h⟩ := g_
          simp only [Bool.and_eq_true] at hz
          obtain rfl := Nat.eq_of_beq_eq_true hz.1
          obtain rfl := Nat.eq_of_beq_eq_true hz.2
          obtain ⟨v, H', w', k1, k2, k3⟩ := freshK_sound (ty := ty) ht hh hte hei h a0 hs hnew
          exact ⟨v, H', w', k1, k2, by simpa [denL, AV.den] using k3⟩
        · rename_i id n r sz len cap
          have g_ := ck_spec h
          clear h
          obtain ⟨hz, h⟩ := g_
          simp only [Bool.and_eq_true] at hz
          obtain rfl := Nat.eq_of_beq_eq_true hz.1
          obtain rfl := Nat.eq_of_beq_eq_true hz.2
          obtain ⟨v, H', w', k1, k2, k3⟩ := freshK_sound (ty := ty) ht hh hte hei h (some ⟨n, r * sz, none⟩) hs hnew
          exact ⟨v, H', w', k1, k2, by simpa [denL, AV.den] using k3⟩
        · rename_i id a n o r sz len cap
          split at h
          · rename_i m o' N cs S c0 tyb hb
            have g_ := ck_spec h
            clear h
            obtain ⟨hcs, rfl, rfl, rfl, hlN, rfl, hem, hroom, h⟩ := g_
            simp only [Bool.and_eq_true] at hcs
            obtain ⟨⟨hsz, hcs⟩, hte2⟩ := hcs
            obtain rfl := Nat.eq_of_beq_eq_true hsz
            have hcs := Nat.eq_of_beq_eq_true hcs
            obtain rfl := Nat.eq_of_beq_eq_true hte2
            rw [nth_eq] at hb
            obtain ⟨h1, h2, h3⟩ := hh.hp.all id _ hb
            obtain ⟨ho', hNc, hrow⟩ := h3 cap e rfl
            subst ho'
            split at h
            rotate_left
            · exact h.elim
            rename_i js hjs
            obtain ⟨j1, j2, j3, j4⟩ := joinCols_row hjs
            have hzl := (ht.get hei).zsz
            have hid : id < H.length := (List.getElem?_eq_some_iff.1 hb).1
            have hdenS : ∀ (l : List AV), denL l = l.map AV.den := denL_map
            by_cases hk0 : k = 0
            · -- nothing is appended
              subst hk0
              have hn0 : news = [] := List.eq_nil_of_length_eq_zero (by rw [hs.newsLen]; simp)
              subst hn0
              have hrun := run_append_nothing w t tx ty e info hte hx (if len = 0 then a else some ⟨n, 0 + 0 * ei.sz, none⟩) len cap (by omega) x.den hs'
              refine ⟨_, _, w, h a n cap S (by omega) (by rw [Nat.add_zero]; exact hem), ?_, by simpa [denL, AV.den] using hrun⟩
              refine hh.put (H := H) (id := id) (j := id) (b' := ⟨n, .lst 0 N cs S (some (cap, e)), true⟩) hb (fun i d hne hd => ⟨hd, hne⟩) rfl rfl (fun hl => ?_)
              have hw3 : ∀ cap' ty', some (cap, e) = some (cap', ty') → 0 = 0 ∧ len + 0 ≤ cap' ∧ (0 < cap' → n ∈ S ∧ ∃ c : List Value, Held w n c ty' ∧ c.length = cap' * js.length) := fun cap' ty' e' => by
                cases e'
                refine ⟨rfl, by omega, fun hc => ?_⟩
                obtain ⟨g1, c, g2, g3⟩ := hrow hc
                exact ⟨g1, c, g2, by rw [j1, ← j2]; exact g3⟩
              refine ⟨h1, fun hn => ?_, hw3⟩
              · obtain ⟨g1, c, tyc, fz, g2, g3⟩ := h2 (by omega)
                refine ⟨g1, c, tyc, fz, g2, fun i hi j y hy => ?_⟩
                rw [j4 i, if_pos (by omega)] at hy
                rw [j1, ← j2]
                exact g3 i (by omega) j y hy
            by_cases hfit : len + k ≤ cap
            · -- it fits
              obtain ⟨g1, c, hc, hcl⟩ := hrow (by omega)
              rw [hcs] at hcl
              have hadr : (if len = 0 then a else some ⟨n, 0 + 0 * ei.sz, none⟩) = some ⟨n, 0, none⟩ := by
                by_cases hl : len = 0
                · rw [if_pos hl]
                  rcases hem hl with h0 | h0
                  · omega
                  · exact h0
                · rw [if_neg hl]; simp
              have hmul : (len + k) * ei.sz ≤ cap * ei.sz := Nat.mul_le_mul_right _ hfit
              rw [Nat.add_mul] at hmul
              have hnl' := hs.newsLen
              have hst := stored_setCells (P := P) (o := len * ei.sz) (xs := news) hc (by omega) hs.one
              have hrun := run_append_room_src w t tx ty e info hte hx n 0 len cap x.den k news hs' hfit
                (fun j hj => by rw [hxs, Nat.zero_add, cell_of hc]; simp; omega) (fun j hj => by rw [hxs, Nat.zero_add]; exact frozen_of hc _ (by omega))
              rw [hxs, Nat.zero_add] at hrun
              refine ⟨_, _, w.setCells n (len * ei.sz) news, h (some ⟨n, 0, none⟩) n cap S hfit (fun _ => .inr rfl), ?_, ?_⟩
              · refine hh.turnS hb rfl _ rfl ?_ n g1 hst.os hst.tape hst.output hst.size hst.block
                have hat2 := hst.at_
                obtain ⟨fz, hat3, hfz⟩ := hat2
                have hw3 : ∀ cap' ty', some (cap, e) = some (cap', ty') → 0 = 0 ∧ len + k ≤ cap' ∧ (0 < cap' → n ∈ S ∧ ∃ c : List Value, Held (w.setCells n (len * ei.sz) news) n c ty' ∧ c.length = cap' * js.length) := fun cap' ty' e' => by
                  cases e'
                  exact ⟨rfl, hfit, fun _ => ⟨g1, _, ⟨fz, hat3, hfz⟩, by simp [hcl, j1, hzl]⟩⟩
                refine ⟨fun k hk => by rw [hst.size]; exact h1 k hk, fun _ => ⟨g1, _, _, _, hat3, fun i hi j y hy => ?_⟩, hw3⟩
                have hj : j < ei.sz := by
                  rcases Nat.lt_or_ge j ei.sz with h1 | h1
                  · exact h1
                  · rw [List.getElem?_eq_none (by simp [j1, hzl]; exact h1)] at hy; cases hy
                rw [j1, hzl, Nat.zero_add]
                have hib : i * ei.sz + j < cap * ei.sz := row_idx (by omega) hj
                rw [spliceV_get _ _ _ _ (by omega), hnl']
                rw [j4 i] at hy
                by_cases hq1 : i < len
                · rw [if_pos hq1] at hy
                  have : (i + 1) * ei.sz ≤ len * ei.sz := Nat.mul_le_mul_right _ hq1
                  rw [Nat.add_mul] at this
                  rw [if_neg (by omega)]
                  obtain ⟨_, c2, tyc, fz2, g2, g3⟩ := h2 (by omega)
                  have hcc : c2 = c := by
                    obtain ⟨fz4, hc4, _⟩ := hc
                    have := g2.symm.trans hc4
                    simp only [Option.some.injEq, Obj.cells.injEq] at this
                    exact Array.toList_inj.2 this.1 |>.trans rfl |> fun e => by simpa using e
                  subst hcc
                  have := g3 i (by omega) j y hy
                  rw [Nat.zero_add, hcs] at this
                  exact this
                · rw [if_neg hq1, if_pos hi] at hy
                  obtain ⟨d, rfl⟩ : ∃ d, i = len + d := ⟨i - len, by omega⟩
                  have hd : d < k := by omega
                  have hi := row_idx hd hj
                  have e1 : (len + d) * ei.sz + j = len * ei.sz + (d * ei.sz + j) := by rw [Nat.add_mul]; omega
                  rw [e1, if_pos (by omega), show len * ei.sz + (d * ei.sz + j) - len * ei.sz = d * ei.sz + j by omega]
                  rw [show len + d - len = d by omega] at hy
                  exact hnew d hd j y hy
              · simp only [denL, AV.den, hadr]
                rw [hrun]
                simp
            · -- it grows
              have olds : ∃ ol : List Value, ol.length = len * ei.sz ∧ (Builtin.firstCells ei.sz len (.slice (if len = 0 then a else some ⟨n, 0 + 0 * ei.sz, none⟩) len cap)).run P w.drew = .ok ol.toArray w.drew ∧ ∀ i, i < len → ∀ j c, (rowOf cs i)[j]? = some c → ol[i * ei.sz + j]? = some c.den := by
                by_cases hl : len = 0
                · subst hl
                  refine ⟨[], by simp, ?_, fun i hi => absurd hi (Nat.not_lt_zero _)⟩
                  rw [if_pos rfl]
                  cases a with
                  | none => exact run_firstCells_none w.drew ei.sz 0 0 cap
                  | some b => exact run_firstCells_some w.drew ei.sz 0 b 0 cap [] (by simp) (fun j u hu => by simp at hu)
                · rw [if_neg hl]
                  obtain ⟨_, c, tyc, fz, g2, g3⟩ := h2 (by omega)
                  have hin : ∀ p, p < len * ei.sz → ∃ y, c[p]? = some y := fun p hp => by
                    obtain ⟨q1, q2, q3⟩ := mul_split hp
                    have hy : ∃ y, (rowOf cs (p / ei.sz))[p % ei.sz]? = some y := ⟨_, List.getElem?_eq_getElem (by simp [hcs]; exact q2)⟩
                    obtain ⟨y, hy⟩ := hy
                    have := g3 _ (by omega) _ y hy
                    rw [Nat.zero_add, hcs, ← q3] at this
                    exact ⟨_, this⟩
                  have hlen : (c.take (len * ei.sz)).length = len * ei.sz := by
                    rw [List.length_take]
                    rcases Nat.eq_zero_or_pos (len * ei.sz) with h0 | h0
                    · omega
                    · obtain ⟨y, hy⟩ := hin (len * ei.sz - 1) (by omega)
                      have := (List.getElem?_eq_some_iff.1 hy).1
                      omega
                  refine ⟨c.take (len * ei.sz), hlen, ?_, fun i hi j y hy => ?_⟩
                  · refine run_firstCells_some w.drew ei.sz len ⟨n, 0 + 0 * ei.sz, none⟩ len cap _ hlen (fun j u hu => ?_)
                    have hj : j < len * ei.sz := by
                      rcases Nat.lt_or_ge j (len * ei.sz) with h1 | h1
                      · exact h1
                      · rw [List.getElem?_eq_none (by rw [hlen]; exact h1)] at hu; cases hu
                    rw [List.getElem?_take, if_pos hj] at hu
                    rw [addr_add]
                    have g2' : w.drew.heap[n]? = some (.cells c.toArray tyc fz) := g2
                    simp [World.cell?, g2', hu]
                  · have hj : j < ei.sz := by
                      rcases Nat.lt_or_ge j ei.sz with h1 | h1
                      · exact h1
                      · rw [List.getElem?_eq_none (by simp [hcs]; exact h1)] at hy; cases hy
                    rw [List.getElem?_take, if_pos (row_idx hi hj)]
                    have := g3 i (by omega) j y hy
                    rw [Nat.zero_add, hcs] at this
                    exact this
              obtain ⟨ol, ol1, ol2, ol3⟩ := olds
              have hg : growK H e ei len cap k cs new fun v H' => ∃ v'' H'', v''.den = v.den ∧ K v'' H'' ∧ ∀ w', HeapOk w0 fp H' w' → HeapOk w0 fp H'' w' := by
                unfold growK
                refine ⟨hroom, ?_⟩
                rw [hjs]
                intro m c hc
                refine ⟨_, _, ?_, h none m c [m] hc (fun e => by omega), fun w' hw => ?_⟩
                · rw [AV.den, AV.den, if_neg (by omega)]; simp
                · exact hw.put (H := H) (id := id) (j := H.length) (b' := ⟨m, .rows c js e, true⟩) (b'' := ⟨m, .lst 0 (len + k) js [m] (some (c, e)), true⟩) (by simp) (fun i d hne hd => ⟨by rw [List.getElem?_append_left (List.getElem?_eq_some_iff.1 hd).1]; exact hd, fun h => by have := (List.getElem?_eq_some_iff.1 hd).1; omega⟩) rfl rfl (fun hr => rows_lst hr hc)
              obtain ⟨v, H', w', ⟨v'', H'', e1, e2, e3⟩, q2, q3, _⟩ := growK_sound (ty := ty) ht hh hte hei hg (by omega) (a := if len = 0 then a else some ⟨n, 0 + 0 * ei.sz, none⟩) hs hnew ol1 ol2 ol3
              exact ⟨v'', H'', w', e2, e3 w' q2, by rw [e1, ← q3]; rfl⟩
          · exact h.elim
        · exact h.elim
      · exact h.elim
    · exact h.elim
  · exact h.elim
end
end Go.Eng
