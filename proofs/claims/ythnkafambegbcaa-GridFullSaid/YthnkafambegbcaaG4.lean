import Derived.Test.YthnkafambegbcaaG2
namespace Go.Sp
open Go.Eng
def putR (most cnt : Int) (F : Int → Int → Option Int) (r c x : Int) : Int × Int × (Int → Int → Option Int) :=
  if okAt r c = false then (2, cnt, F) else if F r c = none ∧ cnt ≥ most then (7, cnt, F) else (0, if F r c = none then cnt + 1 else cnt, putF F r c (some x))
structure putO (g g' : GV) (r c x code : Int) : Prop where
  ok : g'.ok
  n : g'.n = g.n
  most : g'.most = g.most
  is : (code, g'.cnt, g'.F) = putR g.most g.cnt g.F r c x
theorem split_at (R C : Int) : ∀ es : List GE, (∃ l1 e l2, es = l1 ++ e :: l2 ∧ e.r = R ∧ e.c = C) ∨ (∀ e ∈ es, ¬ (e.r = R ∧ e.c = C))
  | [] => .inr (by simp)
  | e :: es => by
    by_cases h : e.r = R ∧ e.c = C
    · exact .inl ⟨[], e, es, rfl, h.1, h.2⟩
    · rcases split_at R C es with ⟨l1, d, l2, h1, h2⟩ | h1
      · exact .inl ⟨e :: l1, d, l2, by rw [h1]; rfl, h2⟩
      · exact .inr fun d hd => by
          rcases List.mem_cons.1 hd with rfl | hd
          · exact h
          · exact h1 d hd
theorem ent_of {l1 l2 : List GE} {e : GE} {F : Int → Int → Option Int} (h : GRep (l1 ++ e :: l2) F) {a : GK} {b : Nat} (hm : (a, b) ∈ (l1 ++ e :: l2).map entG) (hr : a.r = e.r) (hc : a.c = e.c) : a = ⟨e.r, e.c, e.num⟩ ∧ b = e.born := by
  obtain ⟨d, hd, hde⟩ := List.mem_map.1 hm
  simp only [entG, Prod.mk.injEq] at hde
  obtain ⟨rfl, rfl⟩ := hde
  have : d = e := by
    have hd' : d ∈ l1 ++ l2 ∨ d = e := by
      simp only [List.mem_append, List.mem_cons] at hd ⊢
      rcases hd with h | h | h <;> simp [h]
    rcases hd' with hd' | rfl
    · exact absurd ⟨hr, hc⟩ (h.apart l1 e l2 rfl d hd')
    · rfl
  subst this
  exact ⟨rfl, rfl⟩
theorem ent_in {es : List GE} {e : GE} (h : e ∈ es) : ((⟨e.r, e.c, e.num⟩ : GK), e.born) ∈ es.map entG := List.mem_map.2 ⟨e, h, rfl⟩
def GE.add (e : GE) (o : Nat) (y : Int) : GE := ⟨e.r, e.c, e.num, e.born, upd e.bs o true, upd (upd e.is 512 (e.is 512 + 1)) (256 + o) y⟩
def GE.chg (e : GE) (o : Nat) (y : Int) : GE := ⟨e.r, e.c, e.num, e.born, e.bs, upd e.is (256 + o) y⟩
theorem GV.ok.turn {g : GV} (h : g.ok) {l1 l2 : List GE} {e e' : GE} (hes : g.es = l1 ++ e :: l2) (hb : e'.born = e.born) {F : Int → Int → Option Int} {cnt : Int} (hr : GRep (l1 ++ e' :: l2) F)
    (hc : cnt = g.cnt + cntB e'.bs - cntB e.bs) (hc1 : cnt ≤ 4096) : GV.ok { g with cnt := cnt, es := l1 ++ e' :: l2, F := F } := by
  refine ⟨hr, ?_, ?_, h.most0, h.most1, hc1, ?_⟩
  · have := h.brn
    rw [hes] at this
    simpa [hb] using this
  · intro d hd
    have hd : d ∈ l1 ++ e' :: l2 := hd
    simp only [List.mem_append, List.mem_cons] at hd
    have hk := h.clk
    rw [hes] at hk
    rcases hd with hd | rfl | hd
    · exact hk d (by simp [hd])
    · show d.born < g.clock
      rw [hb]; exact hk e (by simp)
    · exact hk d (by simp [hd])
  · have h1 := h.sum
    rw [hes, sumB_mid] at h1
    show cnt = (sumB (l1 ++ e' :: l2) : Nat)
    rw [sumB_mid]
    omega
theorem cnt_pos {g : GV} (h : g.ok) : 0 ≤ g.cnt := by have := h.sum; omega
end Go.Sp
namespace Go.Eng
open Go Go.Sp Go.Proofs.Ythnkafambegbcaa
def putH : Handler := fun _ args H K =>
  match args with
  | [.ptr i n 0, .agg [.v (.int .i64 r), .v (.int .i64 c)], .v (.int .i64 x)] => ∃ (g : GV) (S : List Nat), nth H i = some (gridB g S) ∧ n = g.n ∧ ∀ (g' : GV) (code : Int), putO g g' r c x code → ∀ S', K (.ret (.v (.int .i64 code))) (H.set i (packB grC n g' S'))
  | _ => False
def outG (R : AV → GV → Prop) (z : AV) (H' : HH) : Prop := ∃ (g' : GV) (S : List Nat), R z g' ∧
  ((∃ (l1 : List GE) (e : GE) (l2 : List GE), g'.es = l1 ++ e :: l2 ∧ LeH H' [bksB (l1 ++ l2) S, grB g' (.v (.map (some g'.mn))), gmB 3 g'.mn (g'.es.map entG) g'.clock, bkB e]) ∨
   LeH H' [bksB g'.es S, grB g' (.v (.map (some g'.mn))), gmB 3 g'.mn (g'.es.map entG) g'.clock])
def finG (R : AV → GV → Prop) (z : AV) (H' : HH) : Prop := ∃ (g' : GV) (S : List Nat), R z g' ∧ H' = [bksB g'.es S, grB g' (.v (.map (some g'.mn))), gmB 3 g'.mn (g'.es.map entG) g'.clock]
theorem out_fin {R : AV → GV → Prop} {z : AV} {H' : HH} {w : World} (h : outG R z H') (hw : HoldsH H' w) : ∃ H'', finG R z H'' ∧ To H' H'' w := by
  rcases h with ⟨g', S, h1, ⟨l1, e, l2, h2, h3⟩ | h3⟩
  · have t1 := (h3.to hw).at (H2 := [bksB (l1 ++ l2) S, bkB e, grB g' (.v (.map (some g'.mn))), gmB 3 g'.mn (g'.es.map entG) g'.clock]) [0, 3, 1, 2] (by decide) ⟨LeB.refl _, LeB.refl _, LeB.refl _, LeB.refl _, trivial⟩
    obtain ⟨S', t2⟩ := bks_close t1.hp
    exact ⟨_, ⟨g', S', h1, by rw [h2]⟩, t1.trans t2⟩
  · exact ⟨_, ⟨g', S, h1, rfl⟩, h3.to hw⟩
theorem LC.grid {P : Program} {f : FuncId} {args : List AV} {g : GV} {S : List Nat} {R : AV → GV → Prop} (he : Enters P f) (k : Nat) (rr cc : Int)
    (hyes : ∀ l1 e l2 S', g.es = l1 ++ e :: l2 → e.r = rr → e.c = cc → LC P f args [bksB (l1 ++ l2) S', grB g (.mp 2 g.mn), gmB 3 g.mn (g.es.map entG) g.clock, bkB e] (outG R))
    (hno : (∀ e ∈ g.es, ¬ (e.r = rr ∧ e.c = cc)) → LC P f args [bksB g.es S, grB g (.mp 2 g.mn), gmB k g.mn (g.es.map entG) g.clock] (outG R)) :
    LC P f args [bksB g.es S, grB g (.v (.map (some g.mn))), gmB 3 g.mn (g.es.map entG) g.clock] (finG R) := by
  refine LC.of_open he fun w hw => ?_
  rcases split_at rr cc g.es with ⟨l1, e, l2, h1, h2, h3⟩ | h1
  · have e0 : [bksB g.es S, grB g (.v (.map (some g.mn))), gmB 3 g.mn (g.es.map entG) g.clock] = bksB (l1 ++ e :: l2) S :: [grB g (.v (.map (some g.mn))), gmB 3 g.mn (g.es.map entG) g.clock] := by rw [← h1]
    rw [e0] at hw
    obtain ⟨S', t1⟩ := bks_open hw
    have t2 := t1.at (H2 := [bksB (l1 ++ l2) S', grB g (.mp 2 g.mn), gmB 3 g.mn (g.es.map entG) g.clock, bkB e]) [0, 2, 3, 1] (by decide) ⟨LeB.refl _, LeB.cells rfl (fun h => h), LeB.refl _, LeB.refl _, trivial⟩
    refine ⟨_, args, _, by rw [e0]; exact t2, rfl, hyes l1 e l2 S' h1 h2 h3, fun r' H' w' hr hw' => ?_⟩
    obtain ⟨H'', k1, k2⟩ := out_fin hr hw'
    exact ⟨r', H'', rfl, k1, k2⟩
  · refine ⟨_, args, _, (To.refl hw).at (H2 := [bksB g.es S, grB g (.mp 2 g.mn), gmB k g.mn (g.es.map entG) g.clock]) [0, 1, 2] (by decide) ⟨LeB.refl _, LeB.cells rfl (fun h => h), gm_le 3 k _ _ _, trivial⟩, rfl, hno h1, fun r' H' w' hr hw' => ?_⟩
    obtain ⟨H'', k1, k2⟩ := out_fin hr hw'
    exact ⟨r', H'', rfl, k1, k2⟩
end Go.Eng
namespace Go.Proofs.Ythnkafambegbcaa
open Go Go.Eng Go.Sp
set_option linter.unusedVariables false
set_option linter.unusedSimpArgs false
theorem put_enters : Enters Try.prog 11 := enters_of (c := body Try.f11) Try.func11 rfl (by kernel_rfl)
structure PlO (r c : Int) : Prop where
  ok : okAt r c = true
  w1 : IntKind.i64.wrap (r - 1) = r - 1
  w2 : IntKind.i64.wrap (c - 1) = c - 1
  t1 : (r - 1).tdiv 16 = (r - 1) / 16
  t2 : (c - 1).tdiv 16 = (c - 1) / 16
  x1 : IntKind.i64.wrap ((r - 1) / 16) = (r - 1) / 16
  x2 : IntKind.i64.wrap ((c - 1) / 16) = (c - 1) / 16
  m1 : (r - 1).tmod 16 = (r - 1) % 16
  m2 : (c - 1).tmod 16 = (c - 1) % 16
  i1 : (0 ≤ (r - 1) % 16) = True
  i2 : ((r - 1) % 16 < 16) = True
  j1 : (0 ≤ (c - 1) % 16) = True
  j2 : ((c - 1) % 16 < 16) = True
  eo : 0 + ((r - 1) % 16).toNat * 16 + ((c - 1) % 16).toNat * 1 = cel ((r - 1) % 16) ((c - 1) % 16)
  ep : 256 + ((r - 1) % 16).toNat * 16 + ((c - 1) % 16).toNat * 1 = 256 + cel ((r - 1) % 16) ((c - 1) % 16)
  o1 : (cel ((r - 1) % 16) ((c - 1) % 16) < 256) = True
  o2 : (cel ((r - 1) % 16) ((c - 1) % 16) < 513) = True
  p1 : (256 ≤ 256 + cel ((r - 1) % 16) ((c - 1) % 16)) = True
  p2 : (256 + cel ((r - 1) % 16) ((c - 1) % 16) < 513) = True
  k1 : ((256 : Nat) ≤ 512) = True
  k2 : ((512 : Nat) < 513) = True
  e16 : ((16 : Int) ≠ 0) = True
theorem pl_of {r c : Int} (h : okAt r c = true) : PlO r c := by
  have h' := h
  simp only [okAt, Bool.and_eq_true, decide_eq_true_eq] at h'
  obtain ⟨⟨⟨h1, h2⟩, h3⟩, h4⟩ := h'
  have hlt := cel_lt (i := (r - 1) % 16) (j := (c - 1) % 16) (by omega) (by omega) (by omega) (by omega)
  refine ⟨h, w64 (by omega), w64 (by omega), Int.tdiv_eq_ediv_of_nonneg (by omega), Int.tdiv_eq_ediv_of_nonneg (by omega), w64 (by omega), w64 (by omega), Int.tmod_eq_emod_of_nonneg (by omega), Int.tmod_eq_emod_of_nonneg (by omega),
    eq_true (by omega), eq_true (by omega), eq_true (by omega), eq_true (by omega), ?_, ?_, eq_true hlt, eq_true (by omega), eq_true (by omega), eq_true (by omega), eq_true (by decide), eq_true (by decide), eq_true (by decide)⟩
  · unfold cel; omega
  · unfold cel; omega
theorem key_of {g : GV} (hok : g.ok) {l1 l2 : List GE} {e : GE} (hes : g.es = l1 ++ e :: l2) {r c : Int} (hr : e.r = r) (hc : e.c = c) {a : GK} {n : Nat} (hm : (a, n) ∈ g.es.map entG) (hb : (r == a.r && (c == a.c && true)) = true) : a = ⟨e.r, e.c, e.num⟩ ∧ n = e.born := by
  have hrep := hok.rep
  rw [hes] at hrep hm
  simp only [Bool.and_true, Bool.and_eq_true, beq_iff_eq] at hb
  exact ent_of hrep hm (by rw [hr]; exact hb.1.symm) (by rw [hc]; exact hb.2.symm)
theorem key_in {g : GV} {l1 l2 : List GE} {e : GE} (hes : g.es = l1 ++ e :: l2) {r c : Int} (hr : e.r = r) (hc : e.c = c) (h : ∀ (a : GK) (b : Nat), (a, b) ∈ g.es.map entG → (r == a.r && (c == a.c && true)) = false) : False := by
  have := h ⟨e.r, e.c, e.num⟩ e.born (by rw [hes]; exact ent_in (by simp))
  simp [hr, hc] at this
theorem key_no {g : GV} {r c : Int} (h : ∀ e ∈ g.es, ¬ (e.r = r ∧ e.c = c)) {a : GK} {n : Nat} (hm : (a, n) ∈ g.es.map entG) (hb : (r == a.r && (c == a.c && true)) = true) : False := by
  obtain ⟨d, hd, hde⟩ := List.mem_map.1 hm
  simp only [entG, Prod.mk.injEq] at hde
  obtain ⟨rfl, rfl⟩ := hde
  simp only [Bool.and_true, Bool.and_eq_true, beq_iff_eq] at hb
  exact h d hd ⟨hb.1.symm, hb.2.symm⟩
theorem key_none {g : GV} {r c : Int} (h : ∀ e ∈ g.es, ¬ (e.r = r ∧ e.c = c)) : ∀ (a : GK) (b : Nat), (a, b) ∈ g.es.map entG → (r == a.r && (c == a.c && true)) = false := fun a b hm => by
  cases hb : (r == a.r && (c == a.c && true)) with
  | false => rfl
  | true => exact (key_no h hm hb).elim
abbrev PutR (g : GV) (r c y : Int) : AV → GV → Prop := fun z g' => ∃ code, z = i6 code ∧ putO g g' r c y code
theorem ent_same {l1 l2 : List GE} {e e' : GE} (h : entG e' = entG e) : (l1 ++ e' :: l2).map entG = (l1 ++ e :: l2).map entG := by simp [h]
theorem put_yes (g : GV) (hok : g.ok) (r c y : Int) (he : okAt r c = true) (l1 : List GE) (e : GE) (l2 : List GE) (S : List Nat) (hes : g.es = l1 ++ e :: l2) (hr : e.r = (r - 1) / 16) (hc : e.c = (c - 1) / 16) :
    LC Try.prog 11 [.ptr 1 g.n 0, .agg [.v (.int .i64 r), .v (.int .i64 c)], .v (.int .i64 y)] [bksB (l1 ++ l2) S, grB g (.mp 2 g.mn), gmB 3 g.mn (g.es.map entG) g.clock, bkB e] (outG (PutR g r c y)) := by
  have p := pl_of he
  have hrep := hok.rep
  rw [hes] at hrep
  have hF : g.F r c = e.tell (cel ((r - 1) % 16) ((c - 1) % 16)) := hrep.get (by simp) hr hc
  have hn : e.is 512 = cntB e.bs := hrep.cnt e (by simp)
  have hle := cntB_le e.bs
  have ho := of_eq_true p.o1
  have hpos := cnt_pos hok
  have ne1 : ¬ (512 : Nat) = 256 + cel ((r - 1) % 16) ((c - 1) % 16) := by omega
  refine gPut_vc g (l1 ++ l2) S e r c y ?_
  simp only [p.ok, p.w1, p.w2, p.t1, p.t2, p.x1, p.x2, p.m1, p.m2, p.i1, p.i2, p.j1, p.j2, p.eo, p.ep, p.o1, p.o2, p.p1, p.p2, p.k1, p.k2, p.e16, Bool.not_true, br_false, true_and, and_true]
  intro n1 n2 n3 n4 n5
  refine ⟨fun a n7 hm => br_intro (fun hb => ?_) (fun _ => trivial), fun hno => (key_in hes hr hc hno).elim⟩
  obtain ⟨rfl, rfl⟩ := key_of hok hes hr hc hm hb
  refine ⟨rfl, br_intro (fun hs => ?_) (fun hs => ?_)⟩
  · have hs : e.bs (cel ((r - 1) % 16) ((c - 1) % 16)) = false := by simpa using hs
    have hF0 : g.F r c = none := by rw [hF]; simp [GE.tell, hs]
    refine br_intro (fun hge => ?_) (fun hlt => ?_)
    · refine ⟨g, S, ⟨7, rfl, hok, rfl, rfl, ?_⟩, .inl ⟨l1, e, l2, hes, leAt [0, 1, 2, 3] (by decide) ⟨LeB.refl _, LeB.cells rfl (fun h => h), LeB.refl _, LeB.refl _, trivial⟩⟩⟩
      unfold putR
      rw [if_neg (by simp [he]), if_pos ⟨hF0, by simpa using hge⟩]
    · intro n9 n10 n11 n12
      refine ⟨fun a n14 hm => br_intro (fun hb => ?_) (fun _ => trivial), fun hno => (key_in hes hr hc hno).elim⟩
      obtain ⟨rfl, rfl⟩ := key_of hok hes hr hc hm hb
      simp only [true_and, hs, Bool.not_false, br_true]
      have hlt' : g.cnt < g.most := by simpa using hlt
      have hm1 := hok.most1
      have hset := cntB_set ho hs
      have w1 : IntKind.i64.wrap (g.cnt + 1) = g.cnt + 1 := w64 (by omega)
      have w2 : IntKind.i64.wrap (e.is 512 + 1) = e.is 512 + 1 := w64 (by omega)
      rw [w1, w2]
      have hrep' : GRep (l1 ++ e.add (cel ((r - 1) % 16) ((c - 1) % 16)) y :: l2) (putF g.F r c (some y)) := by
        refine hrep.turn (e' := e.add (cel ((r - 1) % 16) ((c - 1) % 16)) y) hr hc rfl rfl _ (fun o hq => ?_) ?_
        · by_cases hqo : o = cel ((r - 1) % 16) ((c - 1) % 16)
          · subst hqo; simp [GE.tell, GE.add, upd]
          · have : 256 + o ≠ 512 := by omega
            simp [GE.tell, GE.add, upd, hqo, this]
        · show upd (upd e.is 512 (e.is 512 + 1)) (256 + cel ((r - 1) % 16) ((c - 1) % 16)) y 512 = _
          simp only [upd, if_neg ne1, if_true]
          show _ = (cntB (upd e.bs (cel ((r - 1) % 16) ((c - 1) % 16)) true) : Int)
          rw [hset, hn]
      refine ⟨_, S, ⟨0, rfl, hok.turn (e' := e.add (cel ((r - 1) % 16) ((c - 1) % 16)) y) hes rfl hrep' (cnt := g.cnt + 1) (by show _ = g.cnt + (cntB (upd e.bs (cel ((r - 1) % 16) ((c - 1) % 16)) true) : Int) - cntB e.bs; omega) (by omega), rfl, rfl, ?_⟩, .inl ⟨l1, e.add (cel ((r - 1) % 16) ((c - 1) % 16)) y, l2, rfl, leAt [0, 1, 2, 3] (by decide) ⟨LeB.refl _, LeB.cells rfl (fun h => h), ?_, LeB.refl _, trivial⟩⟩⟩
      · unfold putR
        rw [if_neg (by simp [he]), if_neg (by simp [hF0]; omega), if_pos hF0]
      · show LeB (gmB 3 g.mn (g.es.map entG) g.clock) (gmB 3 g.mn ((l1 ++ e.add (cel ((r - 1) % 16) ((c - 1) % 16)) y :: l2).map entG) g.clock)
        rw [hes]
        rw [ent_same (e := e) (e' := e.add (cel ((r - 1) % 16) ((c - 1) % 16)) y) rfl]
        exact LeB.refl _
  · have hs : e.bs (cel ((r - 1) % 16) ((c - 1) % 16)) = true := by simpa using hs
    have hF1 : g.F r c ≠ none := by rw [hF]; simp [GE.tell, hs]
    refine ⟨rfl, fun n9 n10 n11 n12 => ⟨fun a n14 hm => br_intro (fun hb => ?_) (fun _ => trivial), fun hno => (key_in hes hr hc hno).elim⟩⟩
    obtain ⟨rfl, rfl⟩ := key_of hok hes hr hc hm hb
    simp only [true_and, hs, Bool.not_true, br_false]
    have hrep' : GRep (l1 ++ e.chg (cel ((r - 1) % 16) ((c - 1) % 16)) y :: l2) (putF g.F r c (some y)) := by
      refine hrep.turn (e' := e.chg (cel ((r - 1) % 16) ((c - 1) % 16)) y) hr hc rfl rfl _ (fun o hq => ?_) ?_
      · by_cases hqo : o = cel ((r - 1) % 16) ((c - 1) % 16)
        · subst hqo; simp [GE.tell, GE.chg, upd, hs]
        · simp [GE.tell, GE.chg, upd, hqo]
      · show upd e.is (256 + cel ((r - 1) % 16) ((c - 1) % 16)) y 512 = _
        simp only [upd, if_neg ne1]
        exact hn
    refine ⟨_, S, ⟨0, rfl, hok.turn (e' := e.chg (cel ((r - 1) % 16) ((c - 1) % 16)) y) hes rfl hrep' (cnt := g.cnt) (by show _ = g.cnt + (cntB e.bs : Int) - cntB e.bs; omega) hok.cnt1, rfl, rfl, ?_⟩, .inl ⟨l1, e.chg (cel ((r - 1) % 16) ((c - 1) % 16)) y, l2, rfl, leAt [0, 1, 2, 3] (by decide) ⟨LeB.refl _, LeB.cells rfl (fun h => h), ?_, LeB.refl _, trivial⟩⟩⟩
    · unfold putR
      rw [if_neg (by simp [he]), if_neg (fun h => hF1 h.1), if_neg hF1]
    · show LeB (gmB 3 g.mn (g.es.map entG) g.clock) (gmB 3 g.mn ((l1 ++ e.chg (cel ((r - 1) % 16) ((c - 1) % 16)) y :: l2).map entG) g.clock)
      rw [hes]
      rw [ent_same (e := e) (e' := e.chg (cel ((r - 1) % 16) ((c - 1) % 16)) y) rfl]
      exact LeB.refl _
end Go.Proofs.Ythnkafambegbcaa
