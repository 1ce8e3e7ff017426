import Derived.Test.YtjnehpljhnlbfaaT24
namespace Go.Sp
open Go Go.Eng Go.Op Go.Proofs.Ytjnehpljhnlbfaa
theorem mov1_id {k a c : Int} {L : List (Int × RC)} {id : Int} {x : Int × RC} (h : mov1 k a c L id = some x) : x.1 = id := by
  unfold mov1 at h
  cases hg : getL L id with
  | none => rw [hg] at h; cases h
  | some q =>
    rw [hg] at h
    simp only [Option.bind_some] at h
    split at h
    · cases h; rfl
    · cases h
theorem movN_ids {k a c : Int} {L : List (Int × RC)} {ids : List Int} {x : Int × RC} (h : x ∈ movN k a c L ids) : x.1 ∈ ids := by
  obtain ⟨id, h1, h2⟩ := List.mem_filterMap.1 h
  rw [mov1_id h2]; exact h1
theorem movN_len (k a c : Int) (L : List (Int × RC)) (ids : List Int) : (movN k a c L ids).length ≤ ids.length := List.length_filterMap_le _ _
theorem gonN_len (k a c : Int) (L : List (Int × RC)) (ids : List Int) : (gonN k a c L ids).length ≤ ids.length := List.length_filter_le _ _
theorem movN_stay {k a c : Int} {L : List (Int × RC)} {ids : List Int} {id : Int} {q : RC} (hg : getL L id = some q) (ho : rcOkQ k a c q = true) :
    movN k a c L (ids ++ [id]) = movN k a c L ids ++ [(id, rcQ k a c q)] ∧ gonN k a c L (ids ++ [id]) = gonN k a c L ids := by
  constructor
  · unfold movN
    rw [List.filterMap_append]
    congr 1
    have : mov1 k a c L id = some (id, rcQ k a c q) := by unfold mov1; rw [hg]; simp [ho]
    simp [List.filterMap_cons, this]
  · unfold gonN
    rw [List.filter_append, List.filter_cons_of_neg (by unfold gonB; rw [hg]; simp [ho]), List.filter_nil, List.append_nil]
theorem movN_gone {k a c : Int} {L : List (Int × RC)} {ids : List Int} {id : Int} {q : RC} (hg : getL L id = some q) (ho : rcOkQ k a c q = false) :
    movN k a c L (ids ++ [id]) = movN k a c L ids ∧ gonN k a c L (ids ++ [id]) = gonN k a c L ids ++ [id] := by
  constructor
  · unfold movN
    rw [List.filterMap_append]
    have : mov1 k a c L id = none := by unfold mov1; rw [hg]; simp [ho]
    simp [List.filterMap_cons, this]
  · unfold gonN
    rw [List.filter_append, List.filter_cons_of_pos (by unfold gonB; rw [hg]; simp [ho])]
    rfl
theorem getL_mem {L : List (Int × RC)} {id : Int} {q : RC} (h : getL L id = some q) : (id, q) ∈ L := by
  unfold getL at h
  cases hf : L.find? fun x => x.1 == id with
  | none => rw [hf] at h; cases h
  | some x =>
    rw [hf] at h
    cases h
    have h1 := List.mem_of_find?_eq_some hf
    have h2 : x.1 = id := by simpa using List.find?_some hf
    rw [← h2]; exact h1
theorem idsL_len (L : List (Int × RC)) : (idsL L).length = L.length := by unfold idsL; rw [sortI_len, List.length_map]
theorem _root_.Go.Sp.SS.ok.ndp {s : SS} (h : s.ok) : (idsL s.L).Nodup := (sortI_perm _).nodup_iff.2 h.ids
theorem idsL_at {L : List (Int × RC)} {i : Nat} (h : i < L.length) : (idsL L).take (i + 1) = (idsL L).take i ++ [atI (idsL L) i] := by
  have hl : i < (idsL L).length := by rw [idsL_len]; exact h
  rw [List.take_succ_eq_append_getElem hl, atI_get hl]
theorem movI.stay {s nx nx' : SS} {n : Nat} {k a c : Int} {i : Nat} {g : List Int} {q : RC} {code : Int} (ok : s.ok) (hr : rightF k a c = true) (h : movI s nx n k a c i g) (hi : i < s.L.length) (hg : getL s.L (atI (idsL s.L) i) = some q) (ho : rcOkQ k a c q = true)
    (ha : addO nx nx' (atI (idsL s.L) i) (rcQ k a c q) code) : movI s nx' n k a c (i + 1) g := by
  obtain ⟨m1, m2⟩ := movN_stay (ids := (idsL s.L).take i) hg ho
  have hq : okQ (rcQ k a c q) = true := by
    have h2 := ok.right _ (getL_mem hg)
    have h3 : goodR k a c q.t q.l q.b q.r = true := by
      unfold goodR
      rw [hr]
      exact h2
    have := rc_okR h3
    show okR _ _ _ _ = true
    unfold rcOkQ at ho
    rw [ho] at this
    exact this
  have hni : atI (idsL s.L) i ∉ nx.L.map (·.1) := fun hm => by
    obtain ⟨x, hx, e⟩ := List.mem_map.1 hm
    rw [h.is] at hx
    have h1 := movN_ids hx
    rw [e] at h1
    have nd := ok.ndp
    have e2 := idsL_at hi
    have nd2 : ((idsL s.L).take (i + 1)).Nodup := nd.sublist (List.take_sublist _ _)
    rw [e2, List.nodup_append] at nd2
    exact nd2.2.2 _ h1 _ (List.mem_singleton.2 rfl) rfl
  have hlen : ¬ nx.L.length ≥ 8192 := by
    rw [h.is]
    have h1 := movN_len k a c s.L ((idsL s.L).take i)
    have h2 := List.length_take_le i (idsL s.L)
    have := ok.few
    omega
  have his := ha.is
  unfold addL at his
  rw [if_neg (by rw [hq]; decide), if_neg hni, if_neg hlen] at his
  refine ⟨ha.ok, ha.n.trans h.hn, ?_, ?_⟩
  · rw [(Prod.mk.inj his).1, idsL_at hi, m1, h.is]
  · rw [h.gs, idsL_at hi, m2]
theorem movI.gone {s nx : SS} {n : Nat} {k a c : Int} {i : Nat} {g : List Int} {q : RC} (h : movI s nx n k a c i g) (hi : i < s.L.length) (hg : getL s.L (atI (idsL s.L) i) = some q) (ho : rcOkQ k a c q = false) : movI s nx n k a c (i + 1) (g ++ [atI (idsL s.L) i]) := by
  obtain ⟨m1, m2⟩ := movN_gone (ids := (idsL s.L).take i) hg ho
  exact ⟨h.ok, h.hn, by rw [h.is, idsL_at hi, m1], by rw [h.gs, idsL_at hi, m2]⟩
structure moveO (s s' : SS) (k a c : Int) (g : List Int) (code : Int) : Prop where
  ok : s'.ok
  n : s'.n = s.n
  is : (s'.L, g, code) = moveL k a c s.L
end Go.Sp
namespace Go.Eng
open Go Go.Sp Go.Op Go.Proofs.Ytjnehpljhnlbfaa
theorem set_open {s : SS} {S : List Nat} {Hr : HH} {w : World} (hw : HoldsH (setB s S :: Hr) w) : ∃ St, To (setB s S :: Hr) (stB s.n (.v (.pointer s.t.root)) (.v (.map (some s.mn))) :: mpB s.mn s.es s.clock :: trB s.t St :: Hr) w := by
  obtain ⟨H0, g1, g2, g3, g4⟩ := To.unpack hw
  obtain ⟨ok, St, rfl⟩ := g1
  exact ⟨St, g4⟩
theorem mov_last {nx : SS} {S : List Nat} {b0 b1 b2 b3 b5 b6 : Blk} {L : HH} {lb : Blk} {n4 : Nat} {w : World} (e : nx.n = n4) (hw : HoldsH [b0, b1, b2, b3, packB setC n4 nx S, b5, b6, lb] w) :
    ∃ St, To [b0, b1, b2, b3, packB setC n4 nx S, b5, b6, lb] [b0, b1, b2, b3, ⟨n4, .cells [.v (.pointer nx.t.root), .v (.map (some nx.mn))] 75, true⟩, b5, b6, lb, mpB nx.mn nx.es nx.clock, trB nx.t St] w := by
  subst e
  have t1 : To [b0, b1, b2, b3, packB setC nx.n nx S, b5, b6, lb] (setB nx S :: [b0, b1, b2, b3, b5, b6, lb]) w := (To.refl hw).at [4, 0, 1, 2, 3, 5, 6, 7] (by decide) ⟨LeB.refl _, LeB.refl _, LeB.refl _, LeB.refl _, LeB.refl _, LeB.refl _, LeB.refl _, LeB.refl _, trivial⟩
  obtain ⟨St, t2⟩ := set_open t1.hp
  exact ⟨St, (t1.trans t2).at [3, 4, 5, 6, 0, 7, 8, 9, 1, 2] (by decide) ⟨LeB.refl _, LeB.refl _, LeB.refl _, LeB.refl _, LeB.refl _, LeB.refl _, LeB.refl _, LeB.refl _, LeB.refl _, LeB.refl _, trivial⟩⟩
def moveH : Handler := fun _ args H K =>
  match args with
  | [.ptr i n 0, .agg [.v (.int .i64 k), .v (.int .i64 a), .v (.int .i64 c)]] =>
    ∃ (s : SS) (S : List Nat), nth H i = some (setB s S) ∧ n = s.n ∧ ∀ (s' : SS) (g : List Int) (code : Int) (b : Option Addr) (m cap : Nat) (Sg : List Nat), moveO s s' k a c g code → ∀ S', K (.ret (.tup [.os H.length b m 0 0 1 g.length cap, .v (.int .i64 code)])) (H.set i (packB setC n s' S') ++ [lI m g Sg true])
  | _ => False
end Go.Eng
namespace Go.Proofs.Ytjnehpljhnlbfaa
open Go Go.Eng Go.Sp Go.Op
set_option linter.unusedVariables false
set_option linter.unusedSimpArgs false
set_option maxHeartbeats 1000000 in
theorem mvs_lc (s : SS) (ok : s.ok) (S : List Nat) (k a c : Int) (R : AV → HH → Prop)
    (hR : ∀ (z : AV) (H' : HH) (s' : SS) (g : List Int) (code : Int) (b : Option Addr) (m cap : Nat) (Sg St : List Nat), moveO s s' k a c g code → z.den = (AV.tup [.os 0 b m 0 0 1 g.length cap, .v (.int .i64 code)]).den → LeH H' ([stB s.n (.v (.pointer s'.t.root)) (.v (.map (some s'.mn))), mpB s'.mn s'.es s'.clock, trB s'.t St] ++ [lI m g Sg true]) → R z H') :
    LC Try.prog 21 [.ptr 0 s.n 0, .agg [.v (.int .i64 k), .v (.int .i64 a), .v (.int .i64 c)]] [stB s.n (.pp 2 s.t.root) (.mp 1 s.mn), mpB s.mn s.es s.clock, trB s.t S] R :=
  mvs_vc s S k a c (by
    have eL : s.es.length = s.L.length := by simp [SS.L]
    have eI : sortI (List.map (fun e => e.fst.fst) s.es) = idsL s.L := by unfold idsL SS.L; rw [List.map_map]; rfl
    have few := ok.few
    intro n1
    refine ⟨rfl, rfl, br_intro (fun hb => ?_) (fun hb => ?_)⟩
    · have hr : rightF k a c = false := by
        cases h : rightF k a c with
        | false => rfl
        | true => rw [h] at hb; cases hb
      refine hR _ _ s [] 2 none 0 0 [] S ⟨ok, rfl, by unfold moveL; rw [hr]; rfl⟩ (by rw [hr]; rfl) ?_
      refine LeH.trans (LeH.more (b := ⟨0, .lst 0 0 [.ints .i64 (atI [])] [] none, true⟩) rfl fun w => lst_nil (.inl rfl)) ?_
      exact leAt [0, 1, 2, 4] (by decide) ⟨LeB.cells rfl (fun h => h), LeB.refl _, LeB.refl _, LeB.refl _, trivial⟩
    · have hr : rightF k a c = true := by
        cases h : rightF k a c with
        | true => rfl
        | false => rw [h] at hb; cases hb
      intro s1 hs1 S1
      refine ⟨rfl, fun n5 => ⟨1, s.mn, s.clock, s.es, true, true, rfl, rfl, by decide, ⟨ok.brn⟩, by omega, fun a2 n13 n14 S2 => ⟨fun w hw => ?_, fun x hx => ?_, fun x hx => ?_⟩⟩⟩
      · have i0 : movI s s1 s1.n k a c 0 [] := ⟨hs1.ok, rfl, by rw [hs1.is]; rfl, rfl⟩
        have t0 : To _ _ w := ((LeH.more (b := ⟨0, .lst 0 0 [.ints .i64 (atI [])] [] (some (0, 3)), true⟩) rfl fun w => lst_nil (.inr ⟨_, rfl, rfl⟩) : LeH _ _).to hw)
        rcases Nat.lt_or_ge 0 s.es.length with hp | hp
        · refine .inl ⟨⟨0, s1, S1, [], none, 0, 0, [], []⟩, ⟨hp, i0, fun _ => .inl rfl⟩, ⟨rfl, rfl, rfl, rfl, rfl, rfl, rfl, rfl, rfl, trivial⟩, ?_⟩
          exact t0.at [0, 1, 2, 3, 4, 5, 6, 7] (by decide) ⟨LeB.refl _, LeB.refl _, LeB.refl _, LeB.refl _, LeB.refl _, LeB.refl _, LeB.refl _, LeB.refl _, trivial⟩
        · have e0 : s.es.length = 0 := by omega
          obtain ⟨St, t1⟩ := mov_last (L := []) rfl t0.hp
          refine .inr ⟨⟨0, s1, S1, [], none, 0, 0, [], St⟩, ⟨by rw [e0]; exact i0, fun _ => .inl rfl⟩, ⟨by rw [e0]; rfl, rfl, rfl, rfl, rfl, rfl, rfl, rfl, rfl, trivial⟩, t0.trans t1⟩
      · obtain ⟨hi, hm, he⟩ := hx
        have hi2 : (x.i : Int).toNat = x.i := by omega
        have e1 : atI (sortI (List.map (fun e => e.fst.fst) s.es)) (0 + (x.i : Int).toNat) = atI (idsL s.L) x.i := by rw [eI, hi2, Nat.zero_add]
        refine br_intro (fun _ => ⟨by omega, rfl, rfl, by omega, ?_⟩) (fun h => absurd (of_decide_eq_false h) (by omega))
        rw [e1]
        refine ⟨⟨rfl, rfl, rfl, fun y n19 hy => br_intro (fun hid => ?_) (fun _ => trivial), fun hno => ?_⟩, fun y hy => ?_⟩
        · have hid : atI (idsL s.L) x.i = y.1 := by simpa using hid
          have hg : getL s.L (atI (idsL s.L) x.i) = some y.2 := by rw [hid]; exact find_some ok.ids hy
          exact ⟨fun n21 => ⟨rfl, fun w hw => ⟨(n21, y.2), hg, ⟨rfl, rfl, rfl, rfl, rfl, rfl, rfl, rfl, rfl, rfl, rfl, rfl, trivial⟩, To.refl hw⟩⟩, fun n21 => ⟨rfl, fun w hw => ⟨(n21, y.2), hg, ⟨rfl, rfl, rfl, rfl, rfl, rfl, rfl, rfl, rfl, rfl, rfl, rfl, trivial⟩, To.refl hw⟩⟩⟩
        · exfalso
          have h1 : atI (idsL s.L) x.i ∈ idsL s.L := by
            rw [atI_get (by rw [idsL_len]; omega)]
            exact List.getElem_mem _
          have h2 := (sortI_perm _).mem_iff.1 h1
          exact SS.ok.no_id (s := s) hno h2
        · obtain ⟨m0, q⟩ := y
          have hy : getL s.L (atI (idsL s.L) x.i) = some q := hy
          have hgl := gonN_len k a c s.L ((idsL s.L).take x.i)
          have htl := List.length_take_le x.i (idsL s.L)
          have hgx : x.g.length ≤ x.i := by rw [hm.gs]; omega
          have hw64 : IntKind.i64.wrap ((x.i : Int) + 1) = ((x.i + 1 : Nat) : Int) := by rw [w64 (by omega)]; rfl
          rw [hw64]
          refine br_intro (fun ho => ?_) (fun ho => ?_)
          · have ho : rcOkQ k a c q = false := by simpa using ho
            have mg := hm.gone (by omega) hy ho
            have hgl2 : (x.g ++ [atI (idsL s.L) x.i]).length = x.g.length + 1 := by simp
            refine fun n20 => ⟨rfl, rfl, rfl, rfl, Nat.le_refl _, rfl, he, ⟨by omega, by omega⟩, fun a' n22 n23 S' g1 g2 w hw => ?_⟩
            have cong : ∀ i, i < (x.g ++ [atI (idsL s.L) x.i]).length → atI (x.g ++ [atI (idsL s.L) x.i]) i = (if i < x.g.length then atI x.g i else if i < x.g.length + 1 then (match asI .i64 ((nth [AV.v (.int .i64 (atI (idsL s.L) x.i))] ((0 + (i - x.g.length)) * 1 + 0)).getD (AV.v undef)) with | some x => x | none => 0) else 0) := fun i hi => by
              rw [atI_cat]
              split
              · rfl
              · rename_i hn
                have e : i - x.g.length = 0 := by omega
                rw [e, if_pos (by omega)]
                rfl
            have t1 := (To.refl hw).at (H2 := [stB s.n (.pp 2 s.t.root) (.mp 1 s.mn), mpB s.mn s.es s.clock, trB s.t S, ⟨n1, .cells [.v (.int .i64 k), .v (.int .i64 a), .v (.int .i64 c)] 44, true⟩, packB setC s1.n x.nx x.S, ⟨n5, .cells [.mp 1 s.mn] 73, true⟩, ⟨n13, .lst 0 s.es.length [.ints .i64 (atI (sortI (List.map (fun e => e.fst.fst) s.es)))] S2 none, true⟩, ⟨n22, .lst 0 (x.g ++ [atI (idsL s.L) x.i]).length [.ints .i64 (atI (x.g ++ [atI (idsL s.L) x.i]))] S' (some (n23, 3)), true⟩]) [0, 1, 2, 3, 4, 5, 6, 7] (by decide) ⟨LeB.refl _, LeB.refl _, LeB.refl _, LeB.refl _, LeB.refl _, LeB.refl _, LeB.refl _, LeB.ints (Nat.le_of_eq hgl2) (fun h => h) (.inr rfl) cong, trivial⟩
            rcases Nat.lt_or_ge (x.i + 1) s.es.length with hp | hp
            · exact .inl ⟨⟨x.i + 1, x.nx, x.S, x.g ++ [atI (idsL s.L) x.i], a', n22, n23, S', []⟩, ⟨hp, mg, by rw [hgl2]; exact g2⟩, by simp only; omega, ⟨rfl, by rw [hgl2], rfl, rfl, rfl, rfl, rfl, rfl, rfl, trivial⟩, t1⟩
            · have e0 : s.es.length = x.i + 1 := by omega
              obtain ⟨St, t2⟩ := mov_last (L := []) hm.hn t1.hp
              exact .inr ⟨⟨x.i + 1, x.nx, x.S, x.g ++ [atI (idsL s.L) x.i], a', n22, n23, S', St⟩, ⟨by rw [e0]; exact mg, by rw [hgl2]; exact g2⟩, by omega, ⟨by rw [e0], by rw [hgl2], rfl, rfl, rfl, rfl, rfl, rfl, rfl, trivial⟩, t1.trans t2⟩
          · have ho : rcOkQ k a c q = true := by simpa using ho
            refine ⟨rfl, x.nx, x.S, by rw [hm.hn], hm.hn.symm, fun s' code ha S' w hw => ?_⟩
            have ms := hm.stay ok hr (by omega) hy ho ha
            have t1 := (To.refl hw).at (H2 := [stB s.n (.pp 2 s.t.root) (.mp 1 s.mn), mpB s.mn s.es s.clock, trB s.t S, ⟨n1, .cells [.v (.int .i64 k), .v (.int .i64 a), .v (.int .i64 c)] 44, true⟩, packB setC s1.n s' S', ⟨n5, .cells [.mp 1 s.mn] 73, true⟩, ⟨n13, .lst 0 s.es.length [.ints .i64 (atI (sortI (List.map (fun e => e.fst.fst) s.es)))] S2 none, true⟩, ⟨x.n, .lst 0 x.g.length [.ints .i64 (atI x.g)] x.Sg (some (x.cap, 3)), true⟩]) [0, 1, 2, 3, 4, 5, 6, 7] (by decide) ⟨LeB.refl _, LeB.refl _, LeB.refl _, LeB.refl _, LeB.refl _, LeB.refl _, LeB.refl _, LeB.refl _, trivial⟩
            rcases Nat.lt_or_ge (x.i + 1) s.es.length with hp | hp
            · exact .inl ⟨⟨x.i + 1, s', S', x.g, x.a, x.n, x.cap, x.Sg, []⟩, ⟨hp, ms, he⟩, by simp only; omega, ⟨rfl, rfl, rfl, rfl, rfl, rfl, rfl, rfl, rfl, trivial⟩, t1⟩
            · have e0 : s.es.length = x.i + 1 := by omega
              obtain ⟨St, t2⟩ := mov_last (L := []) ms.hn t1.hp
              exact .inr ⟨⟨x.i + 1, s', S', x.g, x.a, x.n, x.cap, x.Sg, St⟩, ⟨by rw [e0]; exact ms, he⟩, by omega, ⟨by rw [e0], rfl, rfl, rfl, rfl, rfl, rfl, rfl, rfl, trivial⟩, t1.trans t2⟩
      · obtain ⟨hm, he⟩ := hx
        refine br_intro (fun h => absurd (of_decide_eq_true h) (by omega)) (fun _ => ?_)
        have etk : (idsL s.L).take s.es.length = idsL s.L := List.take_of_length_le (by rw [idsL_len]; omega)
        have hL : x.nx.L = movN k a c s.L (idsL s.L) := by rw [hm.is, etk]
        have hG : x.g = gonN k a c s.L (idsL s.L) := by rw [hm.gs, etk]
        have okn := hm.ok
        repeat refine ⟨rfl, ?_⟩
        refine hR _ _ ⟨s.n, x.nx.mn, x.nx.es, x.nx.clock, x.nx.t⟩ x.g 0 x.a x.n x.cap x.Sg x.St ⟨⟨okn.wf, okn.avl, okn.srt, okn.perm, okn.ids, okn.brn, okn.clk, okn.right, okn.few⟩, rfl, ?_⟩ rfl ?_
        · unfold moveL
          rw [if_pos hr, ← hG, ← hL]
          rfl
        · exact leAt [0, 8, 9, 7] (by decide) ⟨LeB.cells rfl (fun h => h), LeB.refl _, LeB.refl _, ⟨fun k hk => hk, fun h => h, (LeB.ints (Nat.le_refl _) (fun h => h) (.inl rfl) fun i _ => rfl).2.2⟩, trivial⟩)
end Go.Proofs.Ytjnehpljhnlbfaa
namespace Go.Proofs.Ytjnehpljhnlbfaa
open Go Go.Eng Go.Sp Go.Op
set_option linter.unusedVariables false
set_option linter.unusedSimpArgs false
theorem moveS_ok : HOk Try.prog 21 moveH := parcel_ok (C := setC) setC_own (enters_of (c := body Try.f21) Try.func21 rfl (by kernel_rfl)) fun rs args H K hk => by
  unfold moveH at hk
  split at hk
  · rename_i i n k a c
    obtain ⟨s, S, h1, rfl, hk⟩ := hk
    refine ⟨i, s.n, s, [.ptr 0 s.n 0, .agg [.v (.int .i64 k), .v (.int .i64 a), .v (.int .i64 c)]], rfl, .inl ⟨S, h1, fun H0 hc => ?_⟩⟩
    obtain ⟨ok, S0, rfl⟩ := hc
    refine LC.pre (H' := [stB s.n (.pp 2 s.t.root) (.mp 1 s.mn), mpB s.mn s.es s.clock, trB s.t S0]) ?_ (LeH.of_bs ⟨LeB.cells rfl (fun h => h), LeB.refl _, LeB.refl _, trivial⟩) rfl
    refine mvs_lc s ok S0 k a c _ fun z H' s' g code b m cap Sg St hm hz hl => ?_
    exact ⟨s', _, [lI m g Sg true], .tup [.os H.length b m 0 0 1 g.length cap, .v (.int .i64 code)], by have := hl; rw [← hm.n] at this; exact this, ⟨hm.ok, St, rfl⟩, hz.symm, fun S' => hk s' g code b m cap Sg hm S'⟩
  · exact hk.elim
end Go.Proofs.Ytjnehpljhnlbfaa
