import Derived.Test.YthnkafambegbcaaG3
import Derived.Test.YthnkafambegbcaaG4
namespace Go.Sp
open Go.Eng
def GE.new (r c : Int) (num born : Nat) (o : Nat) (y : Int) : GE := ⟨r, c, num, born, upd (fun _ => false) o true, upd (upd (fun _ => 0) 512 1) (256 + o) y⟩
def GE.none (r c : Int) (num born : Nat) : GE := ⟨r, c, num, born, fun _ => false, fun _ => 0⟩
theorem GV.ok.grow {g : GV} (h : g.ok) {e : GE} (hb : e.born = g.clock) {F : Int → Int → Option Int} {cnt : Int} (hr : GRep (g.es ++ [e]) F)
    (hc : cnt = g.cnt + cntB e.bs) (hc1 : cnt ≤ 4096) : GV.ok { g with cnt := cnt, es := g.es ++ [e], clock := g.clock + 1, F := F } := by
  refine ⟨hr, ?_, ?_, h.most0, h.most1, hc1, ?_⟩
  · show ((g.es ++ [e]).map (·.born)).Nodup
    rw [List.map_append, List.nodup_append]
    refine ⟨h.brn, by simp, fun a ha b hb' => ?_⟩
    obtain ⟨d, hd, rfl⟩ := List.mem_map.1 ha
    simp only [List.map_cons, List.map_nil, List.mem_singleton] at hb'
    have := h.clk d hd
    omega
  · intro d hd
    have hd : d ∈ g.es ++ [e] := hd
    show d.born < g.clock + 1
    rcases List.mem_append.1 hd with hd | hd
    · have := h.clk d hd; omega
    · cases List.mem_singleton.1 hd; omega
  · show cnt = (sumB (g.es ++ [e]) : Nat)
    rw [sumB_mid g.es [] e, List.append_nil]
    have := h.sum
    omega
structure newO (g : GV) (most : Int) : Prop where
  ok : g.ok
  most : g.most = max 0 (min most 4096)
  cnt : g.cnt = 0
  F : g.F = fun _ _ => none
end Go.Sp
namespace Go.Eng
open Go Go.Sp Go.Proofs.Ythnkafambegbcaa
def newH : Handler := fun _ args H K =>
  match args with
  | [.v (.int .i64 most)] => ∀ (g : GV), newO g most → ∀ S, K (.ret (.ptr H.length g.n 0)) (H ++ [packB grC g.n g S])
  | _ => False
def countH : Handler := fun _ args H K =>
  match args with
  | [.ptr i n 0] => ∃ (g : GV) (S : List Nat), nth H i = some (gridB g S) ∧ n = g.n ∧ K (.ret (.v (.int .i64 g.cnt))) H
  | _ => False
theorem holds_nil' (w : World) : HoldsH [] w := ⟨fun i b h => (by simp at h), fun i j b c h => (by simp at h)⟩
theorem bks_nil (w : World) : (bksB [] []).c.holds w (bksB [] []).num := pack_close (C := bksC) (x := []) (H0 := []) rfl (fun b hb => (by cases hb)) (holds_nil' w)
end Go.Eng
namespace Go.Proofs.Ythnkafambegbcaa
open Go Go.Eng Go.Sp
set_option linter.unusedVariables false
set_option linter.unusedSimpArgs false
theorem put_no (g : GV) (hok : g.ok) (r c y : Int) (he : okAt r c = true) (S : List Nat) (hno : ∀ e ∈ g.es, ¬ (e.r = (r - 1) / 16 ∧ e.c = (c - 1) / 16)) :
    LC Try.prog 11 [.ptr 1 g.n 0, .agg [.v (.int .i64 r), .v (.int .i64 c)], .v (.int .i64 y)] [bksB g.es S, grB g (.mp 2 g.mn), gmB 12 g.mn (g.es.map entG) g.clock] (outG (PutR g r c y)) := by
  have p := pl_of he
  have hrep := hok.rep
  have hF0 : g.F r c = none := hrep.hasnot r c hno
  have ho := of_eq_true p.o1
  have hpos := cnt_pos hok
  have ne1 : ¬ (512 : Nat) = 256 + cel ((r - 1) % 16) ((c - 1) % 16) := by omega
  refine gPutN_vc g g.es S r c y ?_
  simp only [p.ok, p.w1, p.w2, p.t1, p.t2, p.x1, p.x2, p.m1, p.m2, p.i1, p.i2, p.j1, p.j2, p.eo, p.ep, p.o1, p.o2, p.p1, p.p2, p.k1, p.k2, p.e16, Bool.not_true, br_false, true_and, and_true]
  intro n1 n2 n3 n4 n5
  refine ⟨fun a n7 hm => br_intro (fun hb => (key_no hno hm hb).elim) (fun _ => trivial), fun _ => br_intro (fun hge => ?_) (fun hlt => ?_)⟩
  · refine ⟨g, S, ⟨7, rfl, hok, rfl, rfl, ?_⟩, .inr (leAt [0, 1, 2] (by decide) ⟨LeB.refl _, LeB.cells rfl (fun h => h), gm_le 12 3 _ _ _, trivial⟩)⟩
    unfold putR
    rw [if_neg (by simp [he]), if_pos ⟨hF0, by simpa using hge⟩]
  · intro n7 n8 n9 n10
    refine ⟨fun a n12 hm => br_intro (fun hb => (key_no hno hm hb).elim) (fun _ => trivial), fun _ n12 => ⟨fun a n14 hm => br_intro (fun hb => (key_no hno hm hb).elim) (fun _ => trivial), fun _ => ?_⟩⟩
    have hlt' : g.cnt < g.most := by simpa using hlt
    have hm1 := hok.most1
    have w1 : IntKind.i64.wrap (g.cnt + 1) = g.cnt + 1 := w64 (by omega)
    rw [w1]
    have hset : (cntB (upd (fun _ => false) (cel ((r - 1) % 16) ((c - 1) % 16)) true) : Int) = 1 := by
      have := cntB_set (bs := fun _ => false) ho rfl
      rw [cntB_none] at this
      simpa using this
    have hmore : GRep (g.es ++ [GE.none ((r - 1) / 16) ((c - 1) / 16) n12 g.clock]) g.F := hrep.more hno (by show (0 : Int) = (cntB fun _ => false : Nat); rw [cntB_none]; rfl) (fun _ _ => rfl)
    have hrep' : GRep (g.es ++ [GE.new ((r - 1) / 16) ((c - 1) / 16) n12 g.clock (cel ((r - 1) % 16) ((c - 1) % 16)) y]) (putF g.F r c (some y)) := by
      refine GRep.turn (l1 := g.es) (l2 := []) (e := GE.none ((r - 1) / 16) ((c - 1) / 16) n12 g.clock) (e' := GE.new ((r - 1) / 16) ((c - 1) / 16) n12 g.clock (cel ((r - 1) % 16) ((c - 1) % 16)) y) hmore rfl rfl rfl rfl _ (fun o hq => ?_) ?_
      · by_cases hqo : o = cel ((r - 1) % 16) ((c - 1) % 16)
        · subst hqo; simp [GE.tell, GE.new, upd]
        · simp [GE.tell, GE.new, GE.none, upd, hqo]
      · show upd (upd (fun _ => 0) 512 1) (256 + cel ((r - 1) % 16) ((c - 1) % 16)) y 512 = (cntB (upd (fun _ => false) (cel ((r - 1) % 16) ((c - 1) % 16)) true) : Int)
        simp only [upd, if_neg ne1, if_true]
        exact hset.symm
    have hk4 : gPutN_k4 r c y n12 = bkB (GE.new ((r - 1) / 16) ((c - 1) / 16) n12 g.clock (cel ((r - 1) % 16) ((c - 1) % 16)) y) := by
      simp only [gPutN_k4, p.w1, p.w2, p.m1, p.m2, p.eo, p.ep]
      rfl
    refine ⟨_, S, ⟨0, rfl, hok.grow (e := GE.new ((r - 1) / 16) ((c - 1) / 16) n12 g.clock (cel ((r - 1) % 16) ((c - 1) % 16)) y) rfl hrep' (cnt := g.cnt + 1) (by show _ = g.cnt + (cntB (upd (fun _ => false) (cel ((r - 1) % 16) ((c - 1) % 16)) true) : Int); omega) (by omega), rfl, rfl, ?_⟩,
      .inl ⟨g.es, GE.new ((r - 1) / 16) ((c - 1) / 16) n12 g.clock (cel ((r - 1) % 16) ((c - 1) % 16)) y, [], rfl, ?_⟩⟩
    · unfold putR
      rw [if_neg (by simp [he]), if_neg (by simp [hF0]; omega), if_pos hF0]
    · rw [List.append_nil]
      refine leAt [0, 1, 2, 12] (by decide) ⟨LeB.refl _, LeB.cells rfl (fun h => h), ?_, by rw [hk4]; exact LeB.refl _, trivial⟩
      show LeB (gmB 12 g.mn (g.es.map entG ++ [(⟨(r - 1) / 16, (c - 1) / 16, n12⟩, g.clock)]) (g.clock + 1)) (gmB 3 g.mn ((g.es ++ [GE.new ((r - 1) / 16) ((c - 1) / 16) n12 g.clock (cel ((r - 1) % 16) ((c - 1) % 16)) y]).map entG) (g.clock + 1))
      rw [List.map_append]
      exact gm_le 12 3 _ _ _
theorem put_lc (g : GV) (hok : g.ok) (S : List Nat) (r c y : Int) :
    LC Try.prog 11 [.ptr 1 g.n 0, .agg [.v (.int .i64 r), .v (.int .i64 c)], .v (.int .i64 y)] [bksB g.es S, grB g (.v (.map (some g.mn))), gmB 3 g.mn (g.es.map entG) g.clock] (finG (PutR g r c y)) := by
  cases he : okAt r c with
  | true => exact LC.grid put_enters 12 ((r - 1) / 16) ((c - 1) / 16) (fun l1 e l2 S' hes hr hc => put_yes g hok r c y he l1 e l2 S' hes hr hc) (fun hno => put_no g hok r c y he S hno)
  | false =>
    have hb : putO g g r c y 2 := ⟨hok, rfl, rfl, by unfold putR; rw [if_pos he]⟩
    refine LC.grid put_enters 12 0 0 (fun l1 e l2 S' hes hr hc => ?_) (fun hno => ?_)
    · refine gPut_vc g (l1 ++ l2) S' e r c y ?_
      simp only [he, Bool.not_false, br_true, true_and]
      exact fun n1 => ⟨g, S', ⟨2, rfl, hb⟩, .inl ⟨l1, e, l2, hes, leAt [0, 1, 2, 3] (by decide) ⟨LeB.refl _, LeB.cells rfl (fun h => h), LeB.refl _, LeB.refl _, trivial⟩⟩⟩
    · refine gPutN_vc g g.es S r c y ?_
      simp only [he, Bool.not_false, br_true, true_and]
      exact fun n1 => ⟨g, S, ⟨2, rfl, hb⟩, .inr (leAt [0, 1, 2] (by decide) ⟨LeB.refl _, LeB.cells rfl (fun h => h), gm_le 12 3 _ _ _, trivial⟩)⟩
theorem putG_ok : HOk Try.prog 11 putH := parcel_ok (C := grC) grC_own put_enters fun rs args H K hk => by
  unfold putH at hk
  split at hk
  · rename_i i n r c y
    obtain ⟨g, S, h1, rfl, hk⟩ := hk
    refine ⟨i, g.n, g, [.ptr 1 g.n 0, .agg [.v (.int .i64 r), .v (.int .i64 c)], .v (.int .i64 y)], rfl, .inl ⟨S, h1, fun H0 hc => ?_⟩⟩
    obtain ⟨ok, S0, rfl⟩ := hc
    refine (put_lc g ok S0 r c y).mono fun z H' hz => ?_
    obtain ⟨g', S', ⟨code, rfl, ho⟩, rfl⟩ := hz
    exact ⟨g', _, [], i6 code, by rw [List.append_nil]; exact LeH.refl _, ⟨ho.ok, S', rfl⟩, rfl, fun S'' => by rw [List.append_nil]; exact hk g' code ho S''⟩
  · exact hk.elim
theorem countG_ok : HOk Try.prog 14 countH := HOk.of_look (enters_of (c := body Try.f14) Try.func14 rfl (by kernel_rfl)) fun rs args H K hk => by
  unfold countH at hk
  split at hk
  · rename_i i n
    obtain ⟨g, S, h1, rfl, hk⟩ := hk
    rw [nth_eq] at h1
    refine ⟨_, hk, fun w hw => ?_⟩
    obtain ⟨H0, ⟨ok, S0, rfl⟩, g2, g3, h0⟩ := pack_open (by have g := hw.all i _ h1; exact g)
    have l : LeH [bksB g.es S0, grB g (.v (.map (some g.mn))), gmB 3 g.mn (g.es.map entG) g.clock] [⟨g.n, .cells [.v (.int .i64 g.most), .v (.int .i64 g.cnt), .mp 1 g.mn] 57, false⟩, ⟨g.mn, .mape GK kyG (vlG 3) (mkG 3) (g.es.map entG) g.clock, false⟩] :=
      leAt [1, 2] (by decide) ⟨LeB.cells rfl (fun h => by cases h), ⟨fun k hk => hk, fun h => (by cases h), fun w h => h⟩, trivial⟩
    exact ⟨_, [.ptr 0 g.n 0], l.holds w h0, rfl, rfl, gCount_vc g ⟨rfl, rfl, rfl⟩⟩
  · exact hk.elim
theorem newG_ok : HOk Try.prog 10 newH := HOk.of_take (enters_of (c := body Try.f10) Try.func10 rfl (by kernel_rfl)) fun rs args H K hk => by
  unfold newH at hk
  split at hk
  · rename_i most
    have em : (if (if (4096 : Int) < most then (4096 : Int) else most) > 0 then if (4096 : Int) < most then (4096 : Int) else most else 0) = max 0 (min most 4096) := by omega
    refine ⟨[], [], [.v (.int .i64 most)], fun z H' => ∃ n1 n2, z = .ptr 1 n2 0 ∧ H' = [Blk.mk n1 (Cont.mapc [] 0) true, Blk.mk n2 (Cont.cells [i6 (max 0 (min most 4096)), i6 0, .mp 0 n1] 57) true], List.nodup_nil, trivial, rfl, gNew_vc most fun n1 n2 => ⟨n1, n2, rfl, by rw [← em]⟩, fun z H' hz => ?_⟩
    obtain ⟨n1, n2, rfl, rfl⟩ := hz
    have ok : (⟨n2, n1, max 0 (min most 4096), 0, [], 0, fun _ _ => none⟩ : GV).ok := ⟨GRep.none, List.nodup_nil, fun e he => (by cases he), by show (0 : Int) ≤ max 0 (min most 4096); omega, by show max 0 (min most 4096) ≤ (4096 : Int); omega, by show (0 : Int) ≤ 4096; decide, rfl⟩
    have l1 : LeH [Blk.mk n1 (Cont.mapc [] 0) true, Blk.mk n2 (Cont.cells [i6 (max 0 (min most 4096)), i6 0, .mp 0 n1] 57) true] [Blk.mk n2 (Cont.cells [i6 (max 0 (min most 4096)), i6 0, .v (.map (some n1))] 57) true, gmB 3 n1 [] 0] :=
      leAt [1, 0] (by decide) ⟨LeB.cells rfl (fun h => h), ⟨fun _ h => h, id, fun w h => ⟨h, List.nodup_nil, fun e (he : e ∈ []) => (by cases he), fun k v a h => mkG_eq h⟩⟩, trivial⟩
    have l2 := l1.trans (LeH.more (H := [Blk.mk n2 (Cont.cells [i6 (max 0 (min most 4096)), i6 0, .v (.map (some n1))] 57) true, gmB 3 n1 [] 0]) (b := bksB [] []) rfl bks_nil)
    have l3 : LeH _ [bksB [] [], Blk.mk n2 (Cont.cells [i6 (max 0 (min most 4096)), i6 0, .v (.map (some n1))] 57) true, gmB 3 n1 [] 0] := l2.trans (leAt [2, 0, 1] (by decide) ⟨LeB.refl _, LeB.refl _, LeB.refl _, trivial⟩)
    have hc : grC ⟨n2, n1, max 0 (min most 4096), 0, [], 0, fun _ _ => none⟩ [bksB [] [], Blk.mk n2 (Cont.cells [i6 (max 0 (min most 4096)), i6 0, .v (.map (some n1))] 57) true, gmB 3 n1 [] 0] := ⟨ok, [], rfl⟩
    refine ⟨.ptr H.length n2 0, [gridB ⟨n2, n1, max 0 (min most 4096), 0, [], 0, fun _ _ => none⟩ [n2, n1]], rfl, ⟨fun w hw => (To.pack (Hr := []) n2 hc (grC_own _ _ hc) (by rw [List.append_nil]; exact l3.holds w hw)).hp, fun i b hi k hk => ?_⟩, hk ⟨n2, n1, max 0 (min most 4096), 0, [], 0, fun _ _ => none⟩ ⟨ok, rfl, rfl, rfl⟩ _⟩
    cases i with
    | zero =>
      cases hi
      have hk : k ∈ [n2, n1] := hk
      rcases List.mem_cons.1 hk with rfl | hk
      · exact ⟨1, _, rfl, by simp [Blk.nums, Cont.nums], fun _ => rfl⟩
      · cases List.mem_singleton.1 hk
        exact ⟨0, _, rfl, by simp [Blk.nums, Cont.nums], fun _ => rfl⟩
    | succ i => cases hi
  · exact hk.elim
end Go.Proofs.Ythnkafambegbcaa
