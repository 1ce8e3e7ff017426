import Derived.Test.YtjnehpljhnlbfaaT18
import Derived.Test.YtjnehpljhnlbfaaShelf
import Derived.Test.YtjnehpljhnlbfaaY15
namespace Go.Sp
open Go Go.Eng Go.Op Go.Proofs.Ytjnehpljhnlbfaa
def rowM (top bot : Int) (q : RC) : Bool := !(decide (q.t > bot)) && decide (q.b ≥ top)
def mtQ (q r : RC) : Bool := colM q r && rowM r.t r.b q
theorem bt_top : ∀ {t : PT}, t.wf → ∀ x ∈ t.toL, x.2.b ≤ t.bt
  | .leaf, _, x, hx => by cases hx
  | .node n id q hi la l r, hw, x, hx => by
    obtain ⟨_, h2, h3, h4⟩ := hw
    show x.2.b ≤ la
    rcases List.mem_append.1 (show x ∈ l.toL ++ (id, q) :: r.toL from hx) with h | h
    · have := bt_top h3 x h
      omega
    · rcases List.mem_cons.1 h with rfl | h
      · simp only; omega
      · have := bt_top h4 x h
        omega
theorem vis_toL (top bot : Int) : ∀ {t : PT}, t.wf → t.toL.Pairwise ah → (t.vis top bot).map (fun k => (k.idn, k.rc)) = t.toL.filter fun x => rowM top bot x.2
  | .leaf, _, _ => rfl
  | .node n id q hi la l r, hw, hs => by
    have hs : (l.toL ++ (id, q) :: r.toL).Pairwise ah := hs
    obtain ⟨s1, s2, s3⟩ := List.pairwise_append.1 hs
    obtain ⟨s4, s5⟩ := List.pairwise_cons.1 s2
    have hb := bt_top hw
    obtain ⟨_, _, h3, h4⟩ := hw
    have e1 := vis_toL top bot h3 s1
    have e2 := vis_toL top bot h4 s5
    show _ = (l.toL ++ (id, q) :: r.toL).filter _
    unfold PT.vis
    split
    · rename_i hl
      symm
      rw [List.map_nil, List.filter_eq_nil_iff]
      intro x hx
      have hb : x.2.b ≤ la := hb x hx
      simp only [rowM, Bool.and_eq_true, decide_eq_true_eq, not_and]
      intro _
      omega
    · rw [List.filter_append, List.map_append, e1]
      congr 1
      split
      · rename_i hq
        symm
        rw [List.map_nil, List.filter_eq_nil_iff]
        intro x hx
        simp only [rowM, Bool.and_eq_true, Bool.not_eq_true', decide_eq_false_iff_not, decide_eq_true_eq, not_and]
        intro h
        rcases List.mem_cons.1 hx with rfl | hx
        · exact absurd hq h
        · have := s4 x hx
          unfold ah at this
          simp only at this
          omega
      · rename_i hq
        split
        · rename_i hg
          rw [List.map_append, e2, List.filter_cons_of_pos (by simp only [rowM, Bool.and_eq_true, Bool.not_eq_true', decide_eq_false_iff_not, decide_eq_true_eq]; exact ⟨hq, hg⟩)]
          rfl
        · rename_i hg
          rw [List.nil_append, e2, List.filter_cons_of_neg (by simp only [rowM, Bool.and_eq_true, Bool.not_eq_true', decide_eq_false_iff_not, decide_eq_true_eq, not_and]; exact fun _ => hg)]
theorem vis_len {top bot : Int} {t : PT} (h1 : t.wf) (h2 : t.toL.Pairwise ah) : (t.vis top bot).length ≤ t.toL.length := by
  have := congrArg List.length (vis_toL top bot h1 h2)
  rw [List.length_map] at this
  rw [this]
  exact List.length_filter_le _ _
theorem ids_toL {r : RC} {t : PT} (h1 : t.wf) (h2 : t.toL.Pairwise ah) : idsM r (t.vis r.t r.b) = (t.toL.filter fun x => mtQ x.2 r).map (·.1) := by
  have e := vis_toL r.t r.b h1 h2
  unfold idsM mtQ
  rw [← List.filter_filter, ← e]
  rw [List.filter_map, List.map_map]
  rfl
def meetL (L : List (Int × RC)) (q : RC) : List Int := if okQ q then sortI ((L.filter fun x => mtQ x.2 q).map (·.1)) else []
structure meetO (L : List (Int × RC)) (q : RC) (l : List Int) : Prop where
  is : l = meetL L q
theorem _root_.Go.Sp.SS.ok.meet {s : SS} (h : s.ok) {q : RC} (hq : okQ q = true) : sortI (idsM q (s.t.vis q.t q.b)) = meetL s.L q := by
  unfold meetL
  rw [if_pos hq, ids_toL h.wf h.srt]
  exact sortI_eq ((h.perm.filter _).map _)
end Go.Sp
namespace Go.Eng
open Go Go.Sp Go.Op Go.Sort Go.Proofs
end Go.Eng
namespace Go.Proofs.Ytjnehpljhnlbfaa
open Go Go.Eng Go.Sp Go.Op Go.Sort Go.Proofs
set_option linter.unusedVariables false
set_option linter.unusedSimpArgs false
theorem sortIH_ok : HOk Try.prog 34 sortIH := by
  refine ⟨enters_of (c := body Try.f34) Try.func34 rfl (by kernel_rfl), fun rs _ args H K w hw hk => ?_⟩
  unfold sortIH at hk
  split at hk
  · rename_i id a n len cap
    obtain ⟨S, l, hb, rfl, hl, hk⟩ := hk
    rw [nth_eq] at hb
    by_cases hl0 : l.length = 0
    · have hl1 : l = [] := List.eq_nil_of_length_eq_zero hl0
      subst hl1
      refine (Try.slices_Sort_int_none (if ([] : List Int).length = 0 then a else some ⟨n, 0 + 0 * 1, none⟩) cap w).mono fun e w' hq => ?_
      obtain ⟨rfl, rfl⟩ := hq
      refine ⟨_, _, rfl, hk, ?_⟩
      have e1 : H.set id ⟨n, .lst 0 ([] : List Int).length [.ints .i64 (atI ([].mergeSort fun x y => decide (x ≤ y)))] S (some (cap, 3)), true⟩ = H := by
        apply List.ext_getElem?
        intro j
        rw [List.getElem?_set]
        split
        · rename_i ej; subst ej
          split
          · rw [hb]; simp
          · rename_i hl; rw [List.getElem?_eq_none (by omega)] at hb; cases hb
        · rfl
      rw [e1]
      exact (HeapOk.enter hw).toExt
    · have hpos : 0 < l.length := by omega
      have hbl := hw.all id _ hb
      obtain ⟨hH, hlt⟩ := lst_holdsI hbl (d := l.toArray) (by simp) hpos (fun i hi => by simp [atI_get hi, hi])
      have hden : (denL [AV.os id a n 0 0 1 l.length cap]).toArray = #[.slice (some ⟨n, 0, none⟩) l.length cap] := by
        simp [denL, AV.den, hl0]
      rw [hden]
      refine (Try.slices_Sort_int n 0 cap l w hH hlt (by omega)).mono fun e w' hq => ?_
      obtain ⟨rfl, q, os, rfl⟩ := hq
      refine ⟨_, _, rfl, hk, ?_⟩
      exact sort_extI hw hb hpos (d := (l.mergeSort fun x y => decide (x ≤ y)).toArray) (by simp) (fun i hi => by
        have hi2 : i < (l.mergeSort fun x y => decide (x ≤ y)).length := by simpa using hi
        rw [atI_get hi2]
        simp [hi])
  · exact hk.elim
end Go.Proofs.Ytjnehpljhnlbfaa
namespace Go.Eng
open Go Go.Sp Go.Op
theorem HOk.of_seek {P : Program} {f : FuncId} {hd : Handler} (he : Enters P f) (h : ∀ rs args H K, hd rs args H K → ∀ w, HoldsH H w → ∃ (Hin : HH) (args' : List AV) (R : AV → HH → Prop), HoldsH Hin w ∧ (∀ b ∈ Hin, b.own = false) ∧ denL args' = denL args ∧ LC P f args' Hin R ∧ ∀ z H', R z H' → ∃ z' N, z'.den = z.den ∧ LeH H' N ∧ allOwn N ∧ K (.ret z') (H ++ N)) : HOk P f hd := by
  refine ⟨he, fun rs _ args H K w hw hk => ?_⟩
  obtain ⟨Hin, args', R, h1, h2, h3, h4, h5⟩ := h rs args H K hk w hw
  rw [← h3]
  refine (h4.calls w h1).mono fun e w' hq => ?_
  obtain ⟨r, H', rfl, hr, hx⟩ := hq
  obtain ⟨z', N, g1, g2, g3, g4⟩ := h5 r H' hr
  exact ⟨z', H ++ N, by rw [g1], g4, Ext.make hw h2 hx g2 g3⟩
theorem LeH.nilI (H : HH) : LeH H [⟨0, .lst 0 0 [.ints .i64 (atI [])] [] none, true⟩] := by
  refine ⟨fun w hw => holds_one (lst_nil (.inl rfl)), fun i b hi k hk => ?_⟩
  cases i with
  | zero => cases hi; cases hk
  | succ i => cases hi
def meetH : Handler := fun _ args H K =>
  match args with
  | [.ptr i n 0, .agg [.v (.int .i64 qt), .v (.int .i64 ql), .v (.int .i64 qb), .v (.int .i64 qr)]] =>
    ∃ (s : SS) (S : List Nat) (o : Bool), nth H i = some ⟨s.n, packC setC s S, o⟩ ∧ n = s.n ∧ ∀ (l : List Int) (a : Option Addr) (m cap : Nat) (S' : List Nat), meetO s.L ⟨qt, ql, qb, qr⟩ l → K (.ret (.os H.length a m 0 0 1 l.length cap)) (H ++ [lI m l S' true])
  | _ => False
end Go.Eng
namespace Go.Proofs.Ytjnehpljhnlbfaa
open Go Go.Eng Go.Sp Go.Op
set_option linter.unusedVariables false
set_option linter.unusedSimpArgs false
theorem mee_lc (s : SS) (ok : s.ok) (S : List Nat) (q : RC) :
    LC Try.prog 16 [.ptr 0 s.n 0, rcV q] [⟨s.n, .cells [knA 2 s.t, .mp 1 s.mn] 75, false⟩, ⟨s.mn, .mape (Int × RC) kyR vlR mkR s.es s.clock, false⟩, ⟨0, packC treeC s.t S, false⟩] (fun z H' => ∃ (a : Option Addr) (m cap : Nat) (S' : List Nat), z.den = (AV.os 0 a m 0 0 1 (meetL s.L q).length cap).den ∧ LeH H' [lI m (meetL s.L q) S' true]) :=
  mee_vc sortIH_ok s S q (by
    intro n1
    refine ⟨rfl, rfl, br_intro (fun hb => ?_) (fun hb => ⟨fun n2 w hw => ⟨n2, trivial, ⟨rfl, rfl, rfl, rfl, trivial⟩, To.refl hw⟩, fun x _ => ⟨rfl, fun n4 n5 n6 n7 => ?_⟩⟩)⟩
    · have hq : okQ q = false := by
        cases h : okQ q with
        | false => rfl
        | true =>
          have h' : okR q.t q.l q.b q.r = true := h
          rw [h'] at hb
          cases hb
      have e : meetL s.L q = [] := by unfold meetL; rw [if_neg (by rw [hq]; decide)]
      rw [e]
      exact ⟨none, 0, 0, [], rfl, LeH.nilI _⟩
    · have hq : okQ q = true := by
        cases h : okQ q with
        | true => rfl
        | false =>
          have h' : okR q.t q.l q.b q.r = false := h
          rw [h'] at hb
          cases hb
      have hq1 := okR_b (show okR q.t q.l q.b q.r = true from hq)
      have hsz := ok.sz
      have hfew := ok.few
      have hvl : (s.t.vis q.t q.b).length ≤ 8192 := Nat.le_trans (vis_len ok.wf ok.srt) (by rw [toL_len]; omega)
      have hil : ∀ xs : List PT, (idsM q xs).length ≤ xs.length := fun xs => by
        unfold idsM
        rw [List.length_map]
        exact List.length_filter_le _ _
      have lies : ∀ (b0 b1 : Blk) (Hr : HH), liesT (b0 :: b1 :: ⟨0, packC treeC s.t S, false⟩ :: Hr) 2 s.t := fun b0 b1 Hr => ⟨⟨_, _, _, rfl⟩⟩
      refine ⟨rfl, rfl, rfl, rfl, ⟨rfl⟩, hq1.1, by omega, ⟨⟨none, 0, 0, []⟩, ⟨fun _ => .inl rfl, by decide⟩, ?_⟩, fun xs x1 _ => lies _ _ _, fun xs x1 n10 id q1 hi la l r h1 h2 h3 h4 h5 => ?_, fun x1 hx => ?_⟩
      · refine LeH.trans (LeH.more (b := ⟨0, .lst 0 0 [.ints .i64 (atI (idsM q []))] [] (some (0, 3)), true⟩) rfl fun w => lst_nil (.inr ⟨_, rfl, rfl⟩)) ?_
        exact leAt [0, 1, 2, 3, 4, 5, 6, 7, 8, 9] (by decide) ⟨LeB.refl _, LeB.refl _, LeB.refl _, LeB.refl _, LeB.cells rfl (fun h => h), LeB.refl _, LeB.refl _, LeB.refl _, LeB.refl _, LeB.refl _, trivial⟩
      · obtain ⟨ys, h3⟩ := h3
        have hxl : (xs ++ [PT.node n10 id q1 hi la l r]).length ≤ 8192 := by
          rw [← h3] at hvl
          simp only [List.length_append, List.length_cons, List.length_nil] at hvl ⊢
          omega
        have hil1 := hil xs
        have hxl1 : xs.length ≤ 8192 := by
          simp only [List.length_append, List.length_cons, List.length_nil] at hxl
          omega
        have skip : colM q1 q = false → idsM q (xs ++ [PT.node n10 id q1 hi la l r]) = idsM q xs := fun hc => by
          unfold idsM
          rw [List.filter_append, List.filter_cons_of_neg (by show ¬ colM q1 q = true; rw [hc]; decide), List.filter_nil, List.append_nil]
        have take : colM q1 q = true → idsM q (xs ++ [PT.node n10 id q1 hi la l r]) = idsM q xs ++ [id] := fun hc => by
          unfold idsM
          rw [List.filter_append, List.filter_cons_of_pos (by show colM q1 q = true; exact hc), List.filter_nil, List.map_append]
          rfl
        have kp := kp_of (H := [⟨s.n, .cells [knA 2 s.t, .mp 1 s.mn] 75, false⟩, ⟨s.mn, .mape (Int × RC) kyR vlR mkR s.es s.clock, false⟩, ⟨0, packC treeC s.t S, false⟩]) (i := 2) (lies _ _ _) h2.h
        have same : colM q1 q = false → ∃ (x' : MX), (((idsM q (xs ++ [PT.node n10 id q1 hi la l r])).length = 0 → x'.cap = 0 ∨ x'.a = some (Addr.mk x'.n 0 none)) ∧ (xs ++ [PT.node n10 id q1 hi la l r]).length ≤ 100000) ∧ x' = x1 := fun hc => by
          refine ⟨x1, ⟨?_, by omega⟩, rfl⟩
          rw [skip hc]
          exact h1.1
        refine ⟨kp, rfl, br_intro (fun hc => ⟨rfl, ?_⟩) (fun hc => ⟨kp, rfl, br_intro (fun hd => ⟨rfl, ?_⟩) (fun hd => ?_)⟩)⟩
        · have hcm : colM q1 q = false := by unfold colM; rw [hc]; rfl
          obtain ⟨x', g1, rfl⟩ := same hcm
          refine ⟨x', g1, ?_⟩
          rw [skip hcm]
          exact LeH.refl _
        · have hcm : colM q1 q = false := by unfold colM; rw [hd, hc]; rfl
          obtain ⟨x', g1, rfl⟩ := same hcm
          refine ⟨x', g1, ?_⟩
          rw [skip hcm]
          exact LeH.refl _
        · have hcm : colM q1 q = true := by unfold colM; rw [hd, hc]; rfl
          refine ⟨rfl, rfl, rfl, rfl, kp, fun n22 => ⟨rfl, rfl, rfl, rfl, Nat.le_refl _, rfl, h1.1, ⟨by omega, by omega⟩, fun a' n24 n25 S' g1 g2 => ?_⟩⟩
          simp only [true_and, and_true]
          refine ⟨⟨a', n24, n25, S'⟩, ⟨?_, by omega⟩, ?_⟩
          · rw [take hcm, List.length_append]
            exact g2
          · rw [take hcm, List.length_append]
            refine leAt [0, 1, 2, 3, 4, 5, 6, 7, 8, 9] (by decide) ⟨LeB.refl _, LeB.refl _, LeB.refl _, LeB.refl _, LeB.cells rfl (fun h => h), LeB.refl _, LeB.refl _, LeB.refl _, LeB.refl _, LeB.ints (Nat.le_refl _) (fun h => h) (.inr rfl) fun i hi => ?_, trivial⟩
            rw [atI_cat]
            split
            · rfl
            · rename_i hn
              have e : i - (idsM q xs).length = 0 := by
                simp only [List.length_cons, List.length_nil] at hi
                omega
              rw [e, if_pos (by simp only [List.length_cons, List.length_nil] at hi; omega)]
              rfl
      · have e := ok.meet hq
        have hl1 := hil (s.t.vis q.t q.b)
        simp only [true_and, and_true]
        refine ⟨x1.S, idsM q (s.t.vis q.t q.b), rfl, rfl, by omega, x1.a, x1.n, x1.cap, x1.S, ?_, ?_⟩
        · rw [← e, sortI_len]
          rfl
        · rw [← e]
          exact leAt [9] (by decide) ⟨LeB.ints (Nat.le_of_eq (sortI_len _)) (fun h => h) (.inl rfl) fun i hi => rfl, trivial⟩)
theorem meet_ok : HOk Try.prog 16 meetH := HOk.of_seek (enters_of (c := body Try.f16) Try.func16 rfl (by kernel_rfl)) fun rs args H K hk w hw => by
  unfold meetH at hk
  split at hk
  · rename_i i n qt ql qb qr
    obtain ⟨s, S, o, h1, rfl, hk⟩ := hk
    rw [nth_eq] at h1
    obtain ⟨ok, S0, h0⟩ := set_look (by have g := hw.all i _ h1; exact g)
    have l : LeH [stB s.n (.v (.pointer s.t.root)) (.v (.map (some s.mn))), mpB s.mn s.es s.clock, trB s.t S0] [⟨s.n, .cells [knA 2 s.t, .mp 1 s.mn] 75, false⟩, ⟨s.mn, .mape (Int × RC) kyR vlR mkR s.es s.clock, false⟩, ⟨0, packC treeC s.t S0, false⟩] :=
      leAt [0, 1, 2] (by decide) ⟨LeB.cells (by simp only [denL, knA_den, AV.den]) (fun h => by cases h), ⟨fun k hk => hk, fun h => (by cases h), fun w h => h⟩, ⟨fun k hk => hk, fun h => (by cases h), fun w h => h⟩, trivial⟩
    refine ⟨_, [.ptr 0 s.n 0, rcV ⟨qt, ql, qb, qr⟩], _, l.holds w h0, ?_, rfl, mee_lc s ok S0 ⟨qt, ql, qb, qr⟩, fun z H' hz => ?_⟩
    · intro b hb
      simp at hb
      rcases hb with rfl | rfl | rfl <;> rfl
    · obtain ⟨a, m, cap, S', e1, e2⟩ := hz
      refine ⟨.os H.length a m 0 0 1 (meetL s.L ⟨qt, ql, qb, qr⟩).length cap, _, e1.symm, e2, ?_, hk _ a m cap S' ⟨rfl⟩⟩
      intro b hb
      cases List.mem_singleton.1 hb
      rfl
  · exact hk.elim
end Go.Proofs.Ytjnehpljhnlbfaa
namespace Go.Sp
open Go Go.Eng Go.Op Go.Proofs.Ytjnehpljhnlbfaa
def stabL (L : List (Int × RC)) (y x : Int) : List Int := if okP y x then meetL L ⟨y, x, y, x⟩ else []
structure stabO (L : List (Int × RC)) (y x : Int) (l : List Int) : Prop where
  is : l = stabL L y x
end Go.Sp
namespace Go.Eng
open Go Go.Sp Go.Op Go.Proofs.Ytjnehpljhnlbfaa
def stabH : Handler := fun _ args H K =>
  match args with
  | [.ptr i n 0, .agg [.v (.int .i64 y), .v (.int .i64 x)]] =>
    ∃ (s : SS) (S : List Nat), nth H i = some (setB s S) ∧ n = s.n ∧ ∀ (l : List Int) (a : Option Addr) (m cap : Nat) (S' : List Nat), stabO s.L y x l → K (.ret (.os H.length a m 0 0 1 l.length cap)) (H ++ [lI m l S' true])
  | _ => False
end Go.Eng
namespace Go.Proofs.Ytjnehpljhnlbfaa
open Go Go.Eng Go.Sp Go.Op
set_option linter.unusedVariables false
set_option linter.unusedSimpArgs false
def tbSt : Tbl := (13, .pure ofH) :: (16, .gen meetH) :: []
theorem tbSt_ok : TblOk Try.prog tbSt := ⟨of_ok, meet_ok, trivial⟩
set_option maxRecDepth 100000 in
theorem stb_vc (s : SS) (S : List Nat) (y x : Int) {R : AV → HH → Prop} (h : (∀ (n1 : Nat), n1 = n1 ∧ n1 = n1 ∧ ∀ (n2 : Nat), n2 = n2 ∧ br (ifB (okP y x && okP y x) (0 : Int) (2 : Int) != (0 : Int)) (R (AV.v (Value.slice none (0 : Nat) (0 : Nat))) [Blk.mk s.n (Cont.res (SS × List Nat) (s, S) (fun (x : SS × List Nat) => x.snd) (packI setC)) false, Blk.mk n1 (Cont.cells [AV.v (Value.int IntKind.i64 y), AV.v (Value.int IntKind.i64 x)] (24 : Nat)) true, Blk.mk n2 (Cont.cells [AV.v (Value.int IntKind.i64 (ifB (okP y x && okP y x) (min y y) (0 : Int))), AV.v (Value.int IntKind.i64 (ifB (okP y x && okP y x) (min x x) (0 : Int))), AV.v (Value.int IntKind.i64 (ifB (okP y x && okP y x) (max y y) (0 : Int))), AV.v (Value.int IntKind.i64 (ifB (okP y x && okP y x) (max x x) (0 : Int)))] (31 : Nat)) true]) (n2 = n2 ∧ ∃ (s_1 : SS), ∃ (S_1 : List Nat), ∃ (o : Bool), some (Blk.mk s.n (Cont.res (SS × List Nat) (s, S) (fun (x : SS × List Nat) => x.snd) (packI setC)) false) = some (Blk.mk s_1.n (Cont.res (SS × List Nat) (s_1, S_1) (fun (x : SS × List Nat) => x.snd) (packI setC)) o) ∧ s.n = s_1.n ∧ ∀ (l : List Int) (a : Option Addr) (n8 n9 : Nat) (S' : List Nat), meetO s_1.L (RC.mk (ifB (okP y x && okP y x) (min y y) (0 : Int)) (ifB (okP y x && okP y x) (min x x) (0 : Int)) (ifB (okP y x && okP y x) (max y y) (0 : Int)) (ifB (okP y x && okP y x) (max x x) (0 : Int))) l → R (AV.os (3 : Nat) a n8 (0 : Nat) (0 : Nat) (1 : Nat) l.length n9) [Blk.mk s.n (Cont.res (SS × List Nat) (s, S) (fun (x : SS × List Nat) => x.snd) (packI setC)) false, Blk.mk n1 (Cont.cells [AV.v (Value.int IntKind.i64 y), AV.v (Value.int IntKind.i64 x)] (24 : Nat)) true, Blk.mk n2 (Cont.cells [AV.v (Value.int IntKind.i64 (ifB (okP y x && okP y x) (min y y) (0 : Int))), AV.v (Value.int IntKind.i64 (ifB (okP y x && okP y x) (min x x) (0 : Int))), AV.v (Value.int IntKind.i64 (ifB (okP y x && okP y x) (max y y) (0 : Int))), AV.v (Value.int IntKind.i64 (ifB (okP y x && okP y x) (max x x) (0 : Int)))] (31 : Nat)) true, Blk.mk n8 (Cont.lst (0 : Nat) l.length [Col.ints IntKind.i64 (atI l)] S' none) true]))) : LC Try.prog 15 [.ptr 0 s.n 0, .agg [.v (.int .i64 y), .v (.int .i64 x)]] [⟨s.n, packC setC s S, false⟩] R :=
  lc_of_exec (tbl := tbSt) tab_ok tbSt_ok mixed noinv 2 _ Try.func15 rfl Try.ntmps15 (by decide) (by kernel_rfl) (Nat.le_of_ble_eq_true rfl) (@Eq.mpr (execN tab tbSt noinv 2 Try.f15.ntmps [] none 0 (body Try.f15) (argsT [.ptr 0 s.n 0, .agg [.v (.int .i64 y), .v (.int .i64 x)]] 0) [⟨s.n, packC setC s S, false⟩] (post Try.f15 tab (retK R))) _ (by kernel_rfl) h)
theorem stb_lc (s : SS) (S : List Nat) (y x : Int) :
    LC Try.prog 15 [.ptr 0 s.n 0, .agg [.v (.int .i64 y), .v (.int .i64 x)]] [⟨s.n, packC setC s S, false⟩] (fun z H' => ∃ (a : Option Addr) (m cap : Nat) (S' : List Nat), z.den = (AV.os 0 a m 0 0 1 (stabL s.L y x).length cap).den ∧ LeH H' [lI m (stabL s.L y x) S' true]) :=
  stb_vc s S y x (by
    intro n1
    refine ⟨rfl, rfl, fun n2 => ⟨rfl, br_intro (fun hb => ?_) (fun hb => ⟨rfl, s, S, false, rfl, rfl, fun l a n8 n9 S' hm => ?_⟩)⟩⟩
    · have e : stabL s.L y x = [] := by
        unfold stabL
        cases h : okP y x with
        | true => rw [h] at hb; cases hb
        | false => rfl
      rw [e]
      exact ⟨none, 0, 0, [], rfl, LeH.nilI _⟩
    · have hp : okP y x = true := by
        cases h : okP y x with
        | true => rfl
        | false => rw [h] at hb; cases hb
      have e : l = stabL s.L y x := by
        rw [hm.is]
        unfold stabL
        rw [hp]
        have e1 : min y y = y := by omega
        have e2 : min x x = x := by omega
        have e3 : max y y = y := by omega
        have e4 : max x x = x := by omega
        rw [e1, e2, e3, e4]
        rfl
      subst e
      exact ⟨a, n8, n9, S', rfl, leAt [3] (by decide) ⟨LeB.refl _, trivial⟩⟩)
theorem stab_ok : HOk Try.prog 15 stabH := HOk.of_make (enters_of (c := body Try.f15) Try.func15 rfl (by kernel_rfl)) fun rs args H K hk => by
  unfold stabH at hk
  split at hk
  · rename_i i n y x
    obtain ⟨s, S, h1, rfl, hk⟩ := hk
    refine ⟨_, [.ptr 0 s.n 0, .agg [.v (.int .i64 y), .v (.int .i64 x)]], _, leAt (H := H) [i] (by simp) ?_, ?_, rfl, stb_lc s S y x, fun z H' hz => ?_⟩
    · simp only [pickH, h1]
      exact ⟨⟨fun k hk => hk, fun h => (by cases h), fun w h => h⟩, trivial⟩
    · intro b hb
      cases List.mem_singleton.1 hb
      rfl
    · obtain ⟨a, m, cap, S', e1, e2⟩ := hz
      refine ⟨.os H.length a m 0 0 1 (stabL s.L y x).length cap, _, e1.symm, e2, ?_, hk _ a m cap S' ⟨rfl⟩⟩
      intro b hb
      cases List.mem_singleton.1 hb
      rfl
  · exact hk.elim
end Go.Proofs.Ytjnehpljhnlbfaa
