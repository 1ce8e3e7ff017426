/- Span: a set: new, what is in it, one less. -/
import Derived.Test.YtjnehpljhnlbfaaT13
namespace Go.Sp
open Go.Eng Go.Proofs.Ytjnehpljhnlbfaa

def getL (L : List (Int × RC)) (id : Int) : Option RC := (L.find? fun x => x.1 == id).map (·.2)
def dropL (L : List (Int × RC)) (id : Int) : List (Int × RC) × Bool := (L.filter fun x => !(x.1 == id), L.any fun x => x.1 == id)

structure dropO (s s' : SS) (id : Int) (b : Bool) : Prop where
  ok : s'.ok
  n : s'.n = s.n
  is : (s'.L, b) = dropL s.L id
structure newO (s : SS) : Prop where
  ok : s.ok
  is : s.L = []

end Go.Sp
namespace Go.Eng
open Go Go.Sp Go.Proofs.Ytjnehpljhnlbfaa

theorem nodup_inj {α β : Type} {f : α → β} : ∀ {l : List α}, (l.map f).Nodup → ∀ {a b : α}, a ∈ l → b ∈ l → f a = f b → a = b
  | [], _, _, _, h, _, _ => by cases h
  | x :: l, hn, a, b, ha, hb, e => by
    rw [List.map_cons, List.nodup_cons] at hn
    rcases List.mem_cons.1 ha with h1 | h1 <;> rcases List.mem_cons.1 hb with h2 | h2
    · rw [h1, h2]
    · rw [h1] at e; exact absurd (List.mem_map.2 ⟨b, h2, e.symm⟩) hn.1
    · rw [h2] at e; exact absurd (List.mem_map.2 ⟨a, h1, e⟩) hn.1
    · exact nodup_inj hn.2 h1 h2 e

def newH : Handler := fun _ args H K =>
  match args with
  | [] => ∀ (s : SS), newO s → ∀ S, K (.ret (.ptr H.length s.n 0)) (H ++ [packB setC s.n s S])
  | _ => False

def getH : Handler := fun _ args H K =>
  match args with
  | [.ptr i n 0, .v (.int .i64 id)] => ∃ (s : SS) (S : List Nat), nth H i = some (setB s S) ∧ n = s.n ∧
      (∀ q, getL s.L id = some q → K (.ret (.tup [rcV q, .v (.bool true)])) H) ∧ (getL s.L id = none → K (.ret (.tup [rcV ⟨0, 0, 0, 0⟩, .v (.bool false)])) H)
  | _ => False
def countH : Handler := fun _ args H K =>
  match args with
  | [.ptr i n 0] => ∃ (s : SS) (S : List Nat), nth H i = some (setB s S) ∧ n = s.n ∧ K (.ret (.v (.int .i64 (s.L.length : Int)))) H
  | _ => False
def heightH : Handler := fun _ args H K =>
  match args with
  | [.ptr i n 0] => ∃ (s : SS) (S : List Nat), nth H i = some (setB s S) ∧ n = s.n ∧ K (.ret (.v (.int .i64 s.t.ht))) H
  | _ => False
def dropH : Handler := fun _ args H K =>
  match args with
  | [.ptr i n 0, .v (.int .i64 id)] => ∃ (s : SS) (S : List Nat), nth H i = some (setB s S) ∧ n = s.n ∧ ∀ (s' : SS) (b : Bool), dropO s s' id b → ∀ S', K (.ret (.v (.bool b))) (H.set i (packB setC n s' S'))
  | _ => False

/-- A set, looked into. -/
theorem set_look {s : SS} {S : List Nat} {w : World} (h : (setB s S).c.holds w (setB s S).num) : s.ok ∧ ∃ S0, HoldsH [stB s.n (.v (.pointer s.t.root)) (.v (.map (some s.mn))), mpB s.mn s.es s.clock, trB s.t S0] w := by
  obtain ⟨H0, g1, g2, g3, g4⟩ := pack_open h
  obtain ⟨ok, S0, rfl⟩ := g1
  exact ⟨ok, S0, g4⟩

theorem find_some {es : List ((Int × RC) × Nat)} {a : Int × RC} {n : Nat} (hn : ((es.map (·.1)).map (·.1)).Nodup) (h : (a, n) ∈ es) : getL (es.map (·.1)) a.1 = some a.2 := by
  unfold getL
  cases hf : (es.map (·.1)).find? fun x => x.1 == a.1 with
  | none =>
    have := List.find?_eq_none.1 hf a (List.mem_map.2 ⟨_, h, rfl⟩)
    simp at this
  | some x =>
    have h1 := List.mem_of_find?_eq_some hf
    have h2 : x.1 = a.1 := by simpa using List.find?_some hf
    have := nodup_inj hn h1 (List.mem_map.2 ⟨_, h, rfl⟩) h2
    rw [this]; rfl

theorem find_none {es : List ((Int × RC) × Nat)} {id : Int} (h : ∀ (a : Int × RC) (b : Nat), (a, b) ∈ es → (id == a.fst) = false) : getL (es.map (·.1)) id = none := by
  unfold getL
  rw [List.find?_eq_none.2]
  · rfl
  · intro x hx
    obtain ⟨e, he, rfl⟩ := List.mem_map.1 hx
    have := h e.1 e.2 he
    simp only [beq_eq_false_iff_ne, ne_eq] at this
    simp only [beq_iff_eq]
    exact fun h => this h.symm

end Go.Eng
namespace Go.Proofs.Ytjnehpljhnlbfaa
open Go Go.Eng Go.Sp
set_option linter.unusedVariables false
set_option linter.unusedSimpArgs false

theorem get_ok : HOk Try.prog 22 getH := HOk.of_look (enters_of (c := body Try.f22) Try.func22 rfl (by kernel_rfl)) fun rs args H K hk => by
  unfold getH at hk
  split at hk
  · rename_i i n id
    obtain ⟨s, S, h1, rfl, hk1, hk2⟩ := hk
    rw [nth_eq] at h1
    have look : ∀ w, HoldsH H w → s.ok ∧ HoldsH [⟨s.n, .cells [.v (.pointer s.t.root), .mp 1 s.mn] 75, false⟩, ⟨s.mn, .mape (Int × RC) kyR vlR mkR s.es s.clock, false⟩] w := fun w hw => by
      obtain ⟨ok, S0, h0⟩ := set_look (by have g := hw.all i _ h1; exact g)
      have l : LeH [stB s.n (.v (.pointer s.t.root)) (.v (.map (some s.mn))), mpB s.mn s.es s.clock, trB s.t S0] [⟨s.n, .cells [.v (.pointer s.t.root), .mp 1 s.mn] 75, false⟩, ⟨s.mn, .mape (Int × RC) kyR vlR mkR s.es s.clock, false⟩] := leAt [0, 1] (by decide) ⟨LeB.cells rfl (fun h => by cases h), ⟨fun k hk => hk, fun h => (by cases h), fun w h => h⟩, trivial⟩
      exact ⟨ok, l.holds w h0⟩
    cases hg : getL s.L id with
    | some q =>
      refine ⟨_, hk1 q hg, fun w hw => ?_⟩
      obtain ⟨ok, h0⟩ := look w hw
      refine ⟨_, [.ptr 0 s.n 0, .v (.int .i64 id)], h0, rfl, rfl, sGet_vc s id ?_⟩
      simp only [true_and, and_true]
      intro n1
      refine ⟨fun a n3 ha => br_intro (fun he n5 => ?_) (fun _ => trivial), fun hno n3 => ?_⟩
      · have he : id = a.1 := by simpa using he
        have := find_some ok.ids ha
        rw [← he] at this
        have e : some q = some a.2 := hg.symm.trans this
        cases e
        rfl
      · have := find_none hno
        rw [show getL (s.es.map (·.1)) id = some q from hg] at this
        cases this
    | none =>
      refine ⟨_, hk2 hg, fun w hw => ?_⟩
      obtain ⟨ok, h0⟩ := look w hw
      refine ⟨_, [.ptr 0 s.n 0, .v (.int .i64 id)], h0, rfl, rfl, sGet_vc s id ?_⟩
      simp only [true_and, and_true]
      intro n1
      refine ⟨fun a n3 ha => br_intro (fun he n5 => ?_) (fun _ => trivial), fun hno n3 => trivial⟩
      have he : id = a.1 := by simpa using he
      have := find_some ok.ids ha
      rw [← he] at this
      rw [show getL (s.es.map (·.1)) id = none from hg] at this
      cases this
  · exact hk.elim

theorem count_ok : HOk Try.prog 27 countH := HOk.of_look (enters_of (c := body Try.f27) Try.func27 rfl (by kernel_rfl)) fun rs args H K hk => by
  unfold countH at hk
  split at hk
  · rename_i i n
    obtain ⟨s, S, h1, rfl, hk⟩ := hk
    rw [nth_eq] at h1
    refine ⟨_, hk, fun w hw => ?_⟩
    obtain ⟨ok, S0, h0⟩ := set_look (by have g := hw.all i _ h1; exact g)
    have l : LeH [stB s.n (.v (.pointer s.t.root)) (.v (.map (some s.mn))), mpB s.mn s.es s.clock, trB s.t S0] [⟨s.n, .cells [.v (.pointer s.t.root), .mp 1 s.mn] 75, false⟩, ⟨s.mn, .mape (Int × RC) kyR vlR mkR s.es s.clock, false⟩] := leAt [0, 1] (by decide) ⟨LeB.cells rfl (fun h => by cases h), ⟨fun k hk => hk, fun h => (by cases h), fun w h => h⟩, trivial⟩
    refine ⟨_, [.ptr 0 s.n 0], l.holds w h0, rfl, rfl, sCount_vc s ?_⟩
    simp only [true_and, and_true, SS.L, List.length_map]
  · exact hk.elim

theorem height_ok : HOk Try.prog 29 heightH := HOk.of_look (enters_of (c := body Try.f29) Try.func29 rfl (by kernel_rfl)) fun rs args H K hk => by
  unfold heightH at hk
  split at hk
  · rename_i i n
    obtain ⟨s, S, h1, rfl, hk⟩ := hk
    rw [nth_eq] at h1
    refine ⟨_, hk, fun w hw => ?_⟩
    obtain ⟨ok, S0, h0⟩ := set_look (by have g := hw.all i _ h1; exact g)
    have l : LeH [stB s.n (.v (.pointer s.t.root)) (.v (.map (some s.mn))), mpB s.mn s.es s.clock, trB s.t S0] [⟨s.n, .cells [.pp 2 s.t.root, .mp 1 s.mn] 75, false⟩, ⟨s.mn, .mape (Int × RC) kyR vlR mkR s.es s.clock, false⟩, ⟨0, packC treeC s.t S0, false⟩] := leAt [0, 1, 2] (by decide) ⟨LeB.cells rfl (fun h => by cases h), ⟨fun k hk => hk, fun h => (by cases h), fun w h => h⟩, ⟨fun k hk => hk, fun h => (by cases h), fun w h => h⟩, trivial⟩
    refine ⟨_, [.ptr 0 s.n 0], l.holds w h0, rfl, rfl, sHeight_vc s S0 ?_⟩
    simp only [true_and, and_true]
    exact ⟨s.t, S0, false, rfl, rfl, rfl⟩
  · exact hk.elim

theorem _root_.Go.Sp.SS.ok.drop {s : SS} (h : s.ok) {a : Int × RC} {q : Nat} (ha : (a, q) ∈ s.es) {T : PT} (hT : T = s.t.del a.1 a.2) : dropO s { s with es := dropE s.es q, t := T } a.1 true := by
  subst hT
  have hL : (dropE s.es q).map (·.1) = s.L.filter fun x => !(x.1 == a.1) := by
    unfold dropE SS.L
    rw [List.filter_map]
    congr 1
    refine List.filter_congr fun e he => ?_
    have h1 : Nat.beq e.2 q = true → (e.1.1 == a.1) = true := fun hb => by
      have := nodup_inj h.brn he ha (Nat.eq_of_beq_eq_true hb)
      rw [this]; simp
    have h2 : (e.1.1 == a.1) = true → Nat.beq e.2 q = true := fun hb => by
      have e1 : e.1.1 = a.1 := by simpa using hb
      have i1 : e.1 ∈ s.L := List.mem_map.2 ⟨e, he, rfl⟩
      have i2 : a ∈ s.L := List.mem_map.2 ⟨_, ha, rfl⟩
      have e2 : e.1 = a := nodup_inj h.ids i1 i2 e1
      have e3 : e = (a, q) := by
        have hids : (s.es.map fun e => e.1.1).Nodup := by have := h.ids; unfold SS.L at this; rw [List.map_map] at this; exact this
        exact nodup_inj hids he ha e1
      rw [e3]; simp
    cases hb : Nat.beq e.2 q <;> cases hc : (e.1.1 == a.1) <;> simp_all
  have hin : a ∈ s.t.toL := h.perm.mem_iff.2 (List.mem_map.2 ⟨_, ha, rfl⟩)
  obtain ⟨d1, d2, d3⟩ := del_toL a.1 a.2 h.srt hin
  have hsub : ({ s with es := dropE s.es q, t := s.t.del a.1 a.2 } : SS).L = s.L.filter fun x => !(x.1 == a.1) := hL
  have hp : s.L.Perm (a :: s.L.filter fun x => !(x.1 == a.1)) := by
    have main : ∀ (l : List (Int × RC)), (l.map (·.1)).Nodup → a ∈ l → l.Perm (a :: l.filter fun x => !(x.1 == a.1)) := by
      intro l
      induction l with
      | nil => intro _ h; cases h
      | cons x l ih =>
        intro hn hm
        rw [List.map_cons, List.nodup_cons] at hn
        rcases List.mem_cons.1 hm with rfl | hm
        · have e : (a :: l).filter (fun x => !(x.1 == a.1)) = l := by
            rw [List.filter_cons_of_neg (by simp)]
            exact List.filter_eq_self.2 fun y hy => by
              have : y.1 ≠ a.1 := fun e => hn.1 (List.mem_map.2 ⟨y, hy, e⟩)
              simpa using this
          rw [e]
        · have hne : x.1 ≠ a.1 := fun e => hn.1 (List.mem_map.2 ⟨a, hm, e.symm⟩)
          rw [List.filter_cons_of_pos (by simpa using hne)]
          exact ((ih hn.2 hm).cons x).trans (List.Perm.swap ..)
    exact main s.L h.ids (List.mem_map.2 ⟨_, ha, rfl⟩)
  refine ⟨⟨(del_both a.1 a.2 h.wf d1).1, (del_avl a.1 a.2 h.wf h.avl d1).1, h.srt.sublist d3, ?_, ?_, ?_, ?_, ?_, ?_⟩, rfl, ?_⟩
  · rw [hsub]
    exact List.Perm.cons_inv (a := a) (d2.symm.trans (h.perm.trans hp))
  · rw [hsub]
    exact h.ids.sublist (List.filter_sublist.map _)
  · exact h.brn.sublist ((show (dropE s.es q).Sublist s.es from List.filter_sublist).map _)
  · exact fun e he => h.clk e ((show (dropE s.es q).Sublist s.es from List.filter_sublist).subset he)
  · rw [hsub]
    exact fun x hx => h.right x (List.mem_filter.1 hx).1
  · rw [hsub]
    exact Nat.le_trans (List.length_filter_le _ _) h.few
  · rw [hsub]
    unfold dropL
    congr 1
    symm
    rw [List.any_eq_true]
    exact ⟨a, List.mem_map.2 ⟨_, ha, rfl⟩, by simp⟩

theorem dropS_ok : HOk Try.prog 26 dropH := parcel_ok (C := setC) setC_own (enters_of (c := body Try.f26) Try.func26 rfl (by kernel_rfl)) fun rs args H K hk => by
  unfold dropH at hk
  split at hk
  · rename_i i n id
    obtain ⟨s, S, h1, rfl, hk⟩ := hk
    refine ⟨i, s.n, s, [.ptr 0 s.n 0, .v (.int .i64 id)], rfl, .inl ⟨S, h1, fun H0 hc => ?_⟩⟩
    obtain ⟨ok, S0, rfl⟩ := hc
    refine LC.pre (H' := [stB s.n (.pp 2 s.t.root) (.mp 1 s.mn), mpB s.mn s.es s.clock, trB s.t S0]) ?_ (LeH.of_bs ⟨LeB.cells rfl (fun h => h), LeB.refl _, LeB.refl _, trivial⟩) rfl
    refine sDrop_vc s S0 id ?_
    simp only [true_and, and_true]
    intro n1
    have hsz := ok.sz
    have hfew := ok.few
    refine ⟨fun a n3 ha => br_intro (fun he n5 n6 => ?_) (fun _ => trivial), fun hno n3 n4 => ?_⟩
    · have he : id = a.1 := by simpa using he
      have hin : a ∈ s.t.toL := ok.perm.mem_iff.2 (List.mem_map.2 ⟨_, ha, rfl⟩)
      obtain ⟨d1, d2, d3⟩ := del_toL a.1 a.2 ok.srt hin
      refine ⟨fun b n8 hb => br_intro (fun he2 => ?_) (fun _ => trivial), fun hno => ?_⟩
      · have he2 : id = b.1 := by simpa using he2
        have hab : b = a := nodup_inj ok.ids (List.mem_map.2 ⟨_, hb, rfl⟩) (List.mem_map.2 ⟨_, ha, rfl⟩) (he2.symm.trans he)
        subst hab
        refine ⟨s.t, S0, rfl, rfl, ⟨by rw [he]; exact d1⟩, ⟨ok.wf⟩, by omega, Nat.le_refl _, fun T hT S1 => ?_⟩
        have ao := ok.drop hb (T := T) (by rw [hT.h, he])
        rw [← he] at ao
        refine ⟨_, [stB s.n (.v (.pointer T.root)) (.v (.map (some s.mn))), mpB s.mn (dropE s.es n8) s.clock, trB T S1], [], .v (.bool true), ?_, ⟨ao.ok, S1, rfl⟩, rfl, fun S' => by rw [List.append_nil]; exact hk _ true ao S'⟩
        rw [List.append_nil]
        exact leAt [0, 1, 6] (by decide) ⟨LeB.cells rfl (fun h => h), LeB.refl _, LeB.refl _, trivial⟩
      · have := hno a n3 ha
        rw [he] at this
        simp at this
    · have hdl : (s.L, false) = dropL s.L id := by
        unfold dropL
        have h1 : ∀ x ∈ s.L, (x.1 == id) = false := fun x hx => by
          obtain ⟨e, he, rfl⟩ := List.mem_map.1 hx
          have := hno e.1 e.2 he
          simp only [beq_eq_false_iff_ne, ne_eq] at this ⊢
          exact fun h => this h.symm
        rw [List.filter_eq_self.2 fun x hx => by rw [h1 x hx]; rfl]
        congr 1
        symm
        rw [List.any_eq_false]
        exact fun x hx => by rw [h1 x hx]; decide
      refine ⟨s, [stB s.n (.v (.pointer s.t.root)) (.v (.map (some s.mn))), mpB s.mn s.es s.clock, trB s.t S0], [], .v (.bool false), ?_, ⟨ok, S0, rfl⟩, rfl, fun S' => by rw [List.append_nil]; exact hk s false ⟨ok, rfl, hdl⟩ S'⟩
      rw [List.append_nil]
      exact leAt [0, 1, 2] (by decide) ⟨LeB.cells rfl (fun h => h), LeB.refl _, LeB.refl _, trivial⟩
  · exact hk.elim

theorem newS_ok : HOk Try.prog 24 newH := HOk.of_take (enters_of (c := body Try.f24) Try.func24 rfl (by kernel_rfl)) fun rs args H K hk => by
  unfold newH at hk
  split at hk
  · refine ⟨[], [], [], fun z H' => ∃ n1 n2, z = .ptr 1 n2 0 ∧ H' = [Blk.mk n1 (Cont.mapc [] 0) true, Blk.mk n2 (Cont.cells [.v (.pointer none), .mp 0 n1] 75) true], List.nodup_nil, trivial, rfl, sNew_vc fun n1 n2 => ⟨n1, n2, rfl, rfl⟩, fun z H' hz => ?_⟩
    obtain ⟨n1, n2, rfl, rfl⟩ := hz
    have ok : (⟨n2, n1, [], 0, .leaf⟩ : SS).ok := ⟨trivial, trivial, List.Pairwise.nil, List.Perm.refl _, List.nodup_nil, List.nodup_nil, fun e he => (by cases he), fun x hx => (by cases hx), Nat.zero_le _⟩
    have l1 : LeH [Blk.mk n1 (Cont.mapc [] 0) true, Blk.mk n2 (Cont.cells [.v (.pointer none), .mp 0 n1] 75) true] [stB n2 (.v (.pointer none)) (.v (.map (some n1))), mpB n1 [] 0] := leAt [1, 0] (by decide) ⟨LeB.cells rfl (fun h => h), ⟨fun _ h => h, id, fun w h => ⟨h, List.nodup_nil, fun e (he : e ∈ []) => (by cases he), fun k v a h => mkR_eq h⟩⟩, trivial⟩
    have l2 := l1.trans (LeH.more (H := [stB n2 (.v (.pointer none)) (.v (.map (some n1))), mpB n1 [] 0]) (b := trB .leaf []) rfl leaf_nil)
    have hc : setC ⟨n2, n1, [], 0, .leaf⟩ [stB n2 (.v (.pointer none)) (.v (.map (some n1))), mpB n1 [] 0, trB .leaf []] := ⟨ok, [], rfl⟩
    refine ⟨.ptr H.length n2 0, [setB ⟨n2, n1, [], 0, .leaf⟩ [n2, n1]], rfl, ⟨fun w hw => (To.pack (Hr := []) n2 hc (setC_own _ _ hc) (by rw [List.append_nil]; exact l2.holds w hw)).hp, fun i b hi k hk => ?_⟩, hk ⟨n2, n1, [], 0, .leaf⟩ ⟨ok, rfl⟩ _⟩
    cases i with
    | zero =>
      cases hi
      have hk : k ∈ [n2, n1] := hk
      rcases List.mem_cons.1 hk with rfl | hk
      · exact ⟨1, _, rfl, by simp [Blk.nums, Cont.nums], fun _ => rfl⟩
      · cases List.mem_singleton.1 hk
        exact ⟨0, _, rfl, by simp [Blk.nums, Cont.nums], fun _ => rfl⟩
    | succ i => cases hi
  · exact hk.elim

end Go.Proofs.Ytjnehpljhnlbfaa

