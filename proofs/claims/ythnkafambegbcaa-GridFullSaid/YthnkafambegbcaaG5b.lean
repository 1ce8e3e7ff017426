import Derived.Test.YthnkafambegbcaaG5a
namespace Go.Sp
open Go.Eng
def dropR (cnt : Int) (F : Int → Int → Option Int) (r c : Int) : Bool × Int × (Int → Int → Option Int) :=
  if okAt r c = true ∧ F r c ≠ none then (true, cnt - 1, putF F r c none) else (false, cnt, F)
structure dropO (g g' : GV) (r c : Int) (b : Bool) : Prop where
  ok : g'.ok
  n : g'.n = g.n
  most : g'.most = g.most
  is : (b, g'.cnt, g'.F) = dropR g.cnt g.F r c
def GE.clr (e : GE) (o : Nat) : GE := ⟨e.r, e.c, e.num, e.born, upd e.bs o false, upd (upd e.is (256 + o) 0) 512 (e.is 512 - 1)⟩
theorem GV.ok.less {g : GV} (h : g.ok) {l1 l2 : List GE} {e : GE} (hes : g.es = l1 ++ e :: l2) {F : Int → Int → Option Int} {cnt : Int} (hr : GRep (l1 ++ l2) F)
    (hc : cnt = g.cnt - cntB e.bs) : GV.ok { g with cnt := cnt, es := l1 ++ l2, F := F } := by
  refine ⟨hr, ?_, ?_, h.most0, h.most1, ?_, ?_⟩
  · have := h.brn
    rw [hes] at this
    show ((l1 ++ l2).map (·.born)).Nodup
    refine List.Nodup.sublist ?_ this
    exact (List.Sublist.append_left (List.sublist_cons_self e l2) l1).map _
  · intro d hd
    have hd : d ∈ l1 ++ l2 := hd
    have hk := h.clk
    rw [hes] at hk
    refine hk d ?_
    simp only [List.mem_append, List.mem_cons] at hd ⊢
    rcases hd with h | h <;> simp [h]
  · show cnt ≤ 4096
    have := h.cnt1
    omega
  · have h1 := h.sum
    rw [hes, sumB_mid] at h1
    show cnt = (sumB (l1 ++ l2) : Nat)
    omega
theorem drop_ent {l1 l2 : List GE} {e : GE} (hn : ((l1 ++ e :: l2).map (·.born)).Nodup) : dropE ((l1 ++ e :: l2).map entG) e.born = (l1 ++ l2).map entG := by
  have keep : ∀ l : List GE, (∀ d ∈ l, d.born ≠ e.born) → (l.map entG).filter (fun x => !Nat.beq x.2 e.born) = l.map entG := fun l hl => by
    rw [List.filter_eq_self]
    intro x hx
    obtain ⟨d, hd, rfl⟩ := List.mem_map.1 hx
    cases hb : Nat.beq (entG d).2 e.born with
    | false => rfl
    | true => exact absurd (Nat.eq_of_beq_eq_true hb) (hl d hd)
  rw [List.map_append, List.map_cons, List.nodup_append, List.nodup_cons] at hn
  obtain ⟨h1, ⟨h2, h3⟩, h4⟩ := hn
  unfold dropE
  rw [List.map_append, List.map_cons, List.filter_append, List.filter_cons, List.map_append]
  have he : (!Nat.beq (entG e).2 e.born) = false := by
    show (!Nat.beq e.born e.born) = false
    simp
  rw [he]
  rw [keep l1 fun d hd hq => h4 d.born (List.mem_map.2 ⟨d, hd, rfl⟩) e.born (by simp) hq, keep l2 fun d hd hq => h2 (List.mem_map.2 ⟨d, hd, hq⟩)]
  rfl
end Go.Sp
namespace Go.Eng
open Go Go.Sp Go.Proofs.Ythnkafambegbcaa
def dropH : Handler := fun _ args H K =>
  match args with
  | [.ptr i n 0, .agg [.v (.int .i64 r), .v (.int .i64 c)]] => ∃ (g : GV) (S : List Nat), nth H i = some (gridB g S) ∧ n = g.n ∧ ∀ (g' : GV) (b : Bool), dropO g g' r c b → ∀ S', K (.ret (.v (.bool b))) (H.set i (packB grC n g' S'))
  | _ => False
end Go.Eng
namespace Go.Proofs.Ythnkafambegbcaa
open Go Go.Eng Go.Sp
set_option linter.unusedVariables false
set_option linter.unusedSimpArgs false
theorem drop_enters : Enters Try.prog 13 := enters_of (c := body Try.f13) Try.func13 rfl (by kernel_rfl)
abbrev DropR (g : GV) (r c : Int) : AV → GV → Prop := fun z g' => ∃ b : Bool, z = .v (.bool b) ∧ dropO g g' r c b
theorem drop_yes (g : GV) (hok : g.ok) (r c : Int) (he : okAt r c = true) (l1 : List GE) (e : GE) (l2 : List GE) (S : List Nat) (hes : g.es = l1 ++ e :: l2) (hr : e.r = (r - 1) / 16) (hc : e.c = (c - 1) / 16) :
    LC Try.prog 13 [.ptr 1 g.n 0, .agg [.v (.int .i64 r), .v (.int .i64 c)]] [bksB (l1 ++ l2) S, grB g (.mp 2 g.mn), gmB 3 g.mn (g.es.map entG) g.clock, bkB e] (outG (DropR g r c)) := by
  have p := pl_of he
  have hrep := hok.rep
  rw [hes] at hrep
  have hF : g.F r c = e.tell (cel ((r - 1) % 16) ((c - 1) % 16)) := hrep.get (by simp) hr hc
  have hn : e.is 512 = cntB e.bs := hrep.cnt e (by simp)
  have hle := cntB_le e.bs
  have ho := of_eq_true p.o1
  have hpos := cnt_pos hok
  have hcnt1 := hok.cnt1
  have ne1 : ¬ (512 : Nat) = 256 + cel ((r - 1) % 16) ((c - 1) % 16) := by omega
  refine gDrop_vc g (l1 ++ l2) S e r c ?_
  simp only [p.ok, p.w1, p.w2, p.t1, p.t2, p.x1, p.x2, p.m1, p.m2, p.i1, p.i2, p.j1, p.j2, p.eo, p.ep, p.o1, p.o2, p.p1, p.p2, p.k1, p.k2, p.e16, Bool.not_true, br_false, true_and, and_true]
  intro n1 n2 n3 n4 n5
  refine ⟨fun a n7 hm => br_intro (fun hb => ?_) (fun _ => trivial), fun hno => (key_in hes hr hc hno).elim⟩
  obtain ⟨rfl, rfl⟩ := key_of hok hes hr hc hm hb
  refine ⟨rfl, br_intro (fun hs => ?_) (fun hs => ?_)⟩
  · have hs : e.bs (cel ((r - 1) % 16) ((c - 1) % 16)) = false := by simpa using hs
    have hF0 : g.F r c = none := by rw [hF]; simp [GE.tell, hs]
    exact ⟨g, S, ⟨false, rfl, hok, rfl, rfl, by unfold dropR; rw [if_neg (by simp [hF0])]⟩, .inl ⟨l1, e, l2, hes, leAt [0, 1, 2, 3] (by decide) ⟨LeB.refl _, LeB.cells rfl (fun h => h), LeB.refl _, LeB.refl _, trivial⟩⟩⟩
  · have hs : e.bs (cel ((r - 1) % 16) ((c - 1) % 16)) = true := by simpa using hs
    have hF1 : g.F r c ≠ none := by rw [hF]; simp [GE.tell, hs]
    have hclr := cntB_clr ho hs
    have hrep' : GRep (l1 ++ e.clr (cel ((r - 1) % 16) ((c - 1) % 16)) :: l2) (putF g.F r c none) := by
      refine hrep.turn (e' := e.clr (cel ((r - 1) % 16) ((c - 1) % 16))) hr hc rfl rfl _ (fun o hq => ?_) ?_
      · by_cases hqo : o = cel ((r - 1) % 16) ((c - 1) % 16)
        · subst hqo; simp [GE.tell, GE.clr, upd]
        · have : 256 + o ≠ 512 := by omega
          simp [GE.tell, GE.clr, upd, hqo, this]
      · show upd (upd e.is (256 + cel ((r - 1) % 16) ((c - 1) % 16)) 0) 512 (e.is 512 - 1) 512 = (cntB (upd e.bs (cel ((r - 1) % 16) ((c - 1) % 16)) false) : Int)
        simp only [upd, if_true]
        have : (cntB (upd e.bs (cel ((r - 1) % 16) ((c - 1) % 16)) false) : Int) = cntB e.bs - 1 := hclr
        omega
    have hd : dropR g.cnt g.F r c = (true, g.cnt - 1, putF g.F r c none) := by unfold dropR; rw [if_pos ⟨he, hF1⟩]
    have u1 : upd e.is (256 + cel ((r - 1) % 16) ((c - 1) % 16)) 0 512 = e.is 512 := by simp only [upd, if_neg ne1]
    have w1 : IntKind.i64.wrap (g.cnt - 1) = g.cnt - 1 := w64 (by omega)
    have w2 : IntKind.i64.wrap (e.is 512 - 1) = e.is 512 - 1 := w64 (by omega)
    have u2 : ∀ (f : Nat → Int) (v : Int), upd f 512 v 512 = v := fun f v => by simp [upd]
    simp only [u1, u2, w1, w2, true_and]
    refine fun n9 n10 n11 => ⟨fun a n13 hm => br_intro (fun hb => ?_) (fun _ => trivial), fun hno => (key_in hes hr hc hno).elim⟩
    obtain ⟨rfl, rfl⟩ := key_of hok hes hr hc hm hb
    simp only [true_and]
    refine br_intro (fun hz => ?_) (fun hz => ?_)
    · have hz : e.is 512 - 1 = 0 := by simpa using hz
      have hall : ∀ o, o < 256 → (e.clr (cel ((r - 1) % 16) ((c - 1) % 16))).bs o = false := fun o hq => cntB_zero (bs := upd e.bs (cel ((r - 1) % 16) ((c - 1) % 16)) false) (by omega) hq
      have hb' := hok.brn
      rw [hes] at hb'
      refine ⟨fun a n16 hm => br_intro (fun hb => ?_) (fun _ => trivial), fun hno => (key_in hes hr hc hno).elim⟩
      obtain ⟨rfl, rfl⟩ := key_of hok hes hr hc hm hb
      refine ⟨_, S, ⟨true, rfl, hok.less hes (hrep'.less hall) (cnt := g.cnt - 1) (by omega), rfl, rfl, hd.symm⟩, .inr (leAt [0, 1, 2] (by decide) ⟨LeB.refl _, LeB.cells rfl (fun h => h), ?_, trivial⟩)⟩
      show LeB (gmB 3 g.mn (dropE (g.es.map entG) e.born) g.clock) (gmB 3 g.mn ((l1 ++ l2).map entG) g.clock)
      rw [hes, drop_ent hb']
      exact LeB.refl _
    · refine ⟨_, S, ⟨true, rfl, hok.turn (e' := e.clr (cel ((r - 1) % 16) ((c - 1) % 16))) hes rfl hrep' (cnt := g.cnt - 1) (by show _ = g.cnt + (cntB (upd e.bs (cel ((r - 1) % 16) ((c - 1) % 16)) false) : Int) - cntB e.bs; omega) (by omega), rfl, rfl, hd.symm⟩,
        .inl ⟨l1, e.clr (cel ((r - 1) % 16) ((c - 1) % 16)), l2, rfl, leAt [0, 1, 2, 3] (by decide) ⟨LeB.refl _, LeB.cells rfl (fun h => h), ?_, LeB.refl _, trivial⟩⟩⟩
      show LeB (gmB 3 g.mn (g.es.map entG) g.clock) (gmB 3 g.mn ((l1 ++ e.clr (cel ((r - 1) % 16) ((c - 1) % 16)) :: l2).map entG) g.clock)
      rw [hes]
      rw [ent_same (e := e) (e' := e.clr (cel ((r - 1) % 16) ((c - 1) % 16))) rfl]
      exact LeB.refl _
theorem drop_no (g : GV) (hok : g.ok) (r c : Int) (he : okAt r c = true) (S : List Nat) (hno : ∀ e ∈ g.es, ¬ (e.r = (r - 1) / 16 ∧ e.c = (c - 1) / 16)) :
    LC Try.prog 13 [.ptr 1 g.n 0, .agg [.v (.int .i64 r), .v (.int .i64 c)]] [bksB g.es S, grB g (.mp 2 g.mn), gmB 99 g.mn (g.es.map entG) g.clock] (outG (DropR g r c)) := by
  have p := pl_of he
  have hF0 : g.F r c = none := hok.rep.hasnot r c hno
  refine gDropN_vc g g.es S r c ?_
  simp only [p.ok, p.w1, p.w2, p.t1, p.t2, p.x1, p.x2, p.m1, p.m2, p.i1, p.i2, p.j1, p.j2, p.eo, p.ep, p.o1, p.o2, p.p1, p.p2, p.k1, p.k2, p.e16, Bool.not_true, br_false, true_and, and_true]
  intro n1 n2 n3 n4 n5
  refine ⟨fun a n7 hm => br_intro (fun hb => (key_no hno hm hb).elim) (fun _ => trivial), fun _ => ?_⟩
  exact ⟨g, S, ⟨false, rfl, hok, rfl, rfl, by unfold dropR; rw [if_neg (by simp [hF0])]⟩, .inr (leAt [0, 1, 2] (by decide) ⟨LeB.refl _, LeB.cells rfl (fun h => h), gm_le 99 3 _ _ _, trivial⟩)⟩
theorem drop_lc (g : GV) (hok : g.ok) (S : List Nat) (r c : Int) :
    LC Try.prog 13 [.ptr 1 g.n 0, .agg [.v (.int .i64 r), .v (.int .i64 c)]] [bksB g.es S, grB g (.v (.map (some g.mn))), gmB 3 g.mn (g.es.map entG) g.clock] (finG (DropR g r c)) := by
  cases he : okAt r c with
  | true => exact LC.grid drop_enters 99 ((r - 1) / 16) ((c - 1) / 16) (fun l1 e l2 S' hes hr hc => drop_yes g hok r c he l1 e l2 S' hes hr hc) (fun hno => drop_no g hok r c he S hno)
  | false =>
    have hb : dropO g g r c false := ⟨hok, rfl, rfl, by unfold dropR; rw [if_neg (by simp [he])]⟩
    refine LC.grid drop_enters 99 0 0 (fun l1 e l2 S' hes hr hc => ?_) (fun hno => ?_)
    · refine gDrop_vc g (l1 ++ l2) S' e r c ?_
      simp only [he, Bool.not_false, br_true, true_and]
      exact fun n1 n2 => ⟨g, S', ⟨false, rfl, hb⟩, .inl ⟨l1, e, l2, hes, leAt [0, 1, 2, 3] (by decide) ⟨LeB.refl _, LeB.cells rfl (fun h => h), LeB.refl _, LeB.refl _, trivial⟩⟩⟩
    · refine gDropN_vc g g.es S r c ?_
      simp only [he, Bool.not_false, br_true, true_and]
      exact fun n1 n2 => ⟨g, S, ⟨false, rfl, hb⟩, .inr (leAt [0, 1, 2] (by decide) ⟨LeB.refl _, LeB.cells rfl (fun h => h), gm_le 99 3 _ _ _, trivial⟩)⟩
theorem dropG_ok : HOk Try.prog 13 dropH := parcel_ok (C := grC) grC_own drop_enters fun rs args H K hk => by
  unfold dropH at hk
  split at hk
  · rename_i i n r c
    obtain ⟨g, S, h1, rfl, hk⟩ := hk
    refine ⟨i, g.n, g, [.ptr 1 g.n 0, .agg [.v (.int .i64 r), .v (.int .i64 c)]], rfl, .inl ⟨S, h1, fun H0 hc => ?_⟩⟩
    obtain ⟨ok, S0, rfl⟩ := hc
    refine (drop_lc g ok S0 r c).mono fun z H' hz => ?_
    obtain ⟨g', S', ⟨b, rfl, ho⟩, rfl⟩ := hz
    exact ⟨g', _, [], .v (.bool b), by rw [List.append_nil]; exact LeH.refl _, ⟨ho.ok, S', rfl⟩, rfl, fun S'' => by rw [List.append_nil]; exact hk g' b ho S''⟩
  · exact hk.elim
end Go.Proofs.Ythnkafambegbcaa
