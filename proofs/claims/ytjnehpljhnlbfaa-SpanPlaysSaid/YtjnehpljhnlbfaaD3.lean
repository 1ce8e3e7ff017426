import Derived.Test.YtjnehpljhnlbfaaD2
namespace Go.Sp
open Go Go.Eng Go.Op Go.Proofs.Ytjnehpljhnlbfaa
def loB (id : Int) (x : Int × RC) : Bool := decide (x.1 < id)
def insD (l : List (Int × RC)) (id : Int) (q : RC) : List (Int × RC) := l.takeWhile (loB id) ++ (id, q) :: l.dropWhile (loB id)
def addD (l : List (Int × RC)) (id : Int) (q : RC) : List (Int × RC) × Int :=
  if okQ q = false then (l, 2) else if (getL l id).isSome then (l, 9) else if l.length ≥ 8192 then (l, 7) else (insD l id q, 0)
theorem addW_eq {id : Int} : ∀ {l : List (Int × RC)} {i : Nat}, addW l id i → l.take i = l.takeWhile (loB id) ∧ l.drop i = l.dropWhile (loB id)
  | [], i, h => by simp
  | x :: l, 0, h => by
    have h1 : ¬ x.1 < id := by
      rcases h.hi with h | h
      · simp at h
      · exact h
    have h2 : loB id x = false := by unfold loB; exact decide_eq_false h1
    simp [List.takeWhile_cons, List.dropWhile_cons, h2]
  | x :: l, i + 1, h => by
    have h1 : x.1 < id := h.lo 0 (by omega)
    have h2 : loB id x = true := by unfold loB; exact decide_eq_true h1
    have h3 : addW l id i := ⟨by have := h.le; simp at this; exact this, fun j hj => h.lo (j + 1) (by omega), by
      rcases h.hi with h | h
      · left; simpa using h
      · right; exact h⟩
    obtain ⟨g1, g2⟩ := addW_eq h3
    simp [List.takeWhile_cons, List.dropWhile_cons, h2, g1, g2]
theorem insD_len (l : List (Int × RC)) (id : Int) (q : RC) : (insD l id q).length = l.length + 1 := by
  unfold insD
  rw [List.length_append, List.length_cons]
  have := congrArg List.length (List.takeWhile_append_dropWhile (p := loB id) (l := l))
  rw [List.length_append] at this
  omega
structure rmoveO (k a c : Int) (l : List (Int × RC)) (l' : List (Int × RC)) (g : List Int) : Prop where
  is : l' = l.filterMap fun x => if rrOkQ k a c x.2 then some (x.1, rrQ k a c x.2) else none
  gs : g = (l.filter fun x => !rrOkQ k a c x.2).map (·.1)
end Go.Sp
namespace Go.Eng
open Go Go.Sp Go.Op Go.Proofs.Ytjnehpljhnlbfaa
def raddR (a : Option Addr) (n cap : Nat) (l : List (Int × RC)) (id : Int) (q : RC) (z : AV) (H' : HH) : Prop :=
  (∃ code : Int, addD l id q = (l, code) ∧ z.den = (AV.tup [.agg [.os 0 a n 0 0 5 l.length cap], .v (.int .i64 code)]).den) ∨
  (∃ (l' : List (Int × RC)) (a' : Option Addr) (n' c' : Nat) (S' : List Nat), addD l id q = (l', 0) ∧ l'.length ≤ c' ∧ z.den = (AV.tup [.agg [.os 0 a' n' 0 0 5 l'.length c'], .v (.int .i64 0)]).den ∧ LeH H' [itB n' l' S' true])
structure addDO (l : List (Int × RC)) (id : Int) (q : RC) (l' : List (Int × RC)) (code : Int) : Prop where
  is : addD l id q = (l', code)
def raddH : Handler := fun _ args H K =>
  match args with
  | [.agg [.os i a n 0 0 5 len cap], .v (.int .i64 id), .agg [.v (.int .i64 qt), .v (.int .i64 ql), .v (.int .i64 qb), .v (.int .i64 qr)]] => ∃ (l : List (Int × RC)) (S : List Nat) (wr : Option (Nat × TypeId)) (own : Bool), nth H i = some ⟨n, .dl (Int × RC) itD 0 l S wr none, own⟩ ∧ len = l.length ∧ l.length ≤ 100000 ∧ l.length ≤ cap ∧
      (∀ code : Int, addDO l id ⟨qt, ql, qb, qr⟩ l code → K (.ret (.tup [.agg [.os i a n 0 0 5 len cap], .v (.int .i64 code)])) H) ∧
      (∀ (l' : List (Int × RC)) (a' : Option Addr) (n' c' : Nat) (S' : List Nat), addDO l id ⟨qt, ql, qb, qr⟩ l' 0 → l'.length ≤ c' → K (.ret (.tup [.agg [.os H.length a' n' 0 0 5 l'.length c'], .v (.int .i64 0)])) (H ++ [itB n' l' S' true]))
  | _ => False
def rmoveR (a_ : Option Addr) (n cap : Nat) (l : List (Int × RC)) (k a c : Int) (z : AV) (H' : HH) : Prop :=
  (rightF k a c = false ∧ z.den = (AV.tup [.agg [.os 0 a_ n 0 0 5 l.length cap], .v (.slice none 0 0), .v (.int .i64 2)]).den) ∨
  (∃ (l' : List (Int × RC)) (g : List Int) (a' : Option Addr) (n' c' : Nat) (S' : List Nat) (b' : Option Addr) (m' d' : Nat) (R' : List Nat), rightF k a c = true ∧ rmoveO k a c l l' g ∧ l'.length ≤ c' ∧ z.den = (AV.tup [.agg [.os 0 a' n' 0 0 5 l'.length c'], .os 0 b' m' 0 0 1 g.length d', .v (.int .i64 0)]).den ∧ LeH H' [itB n' l' S' true, lI m' g R' true])
def rmoveH : Handler := fun _ args H K =>
  match args with
  | [.agg [.os i a_ n 0 0 5 len cap], .agg [.v (.int .i64 k), .v (.int .i64 a), .v (.int .i64 c)]] => ∃ (l : List (Int × RC)) (S : List Nat) (wr : Option (Nat × TypeId)) (own : Bool), nth H i = some ⟨n, .dl (Int × RC) itD 0 l S wr none, own⟩ ∧ len = l.length ∧ l.length ≤ 100000 ∧
      (rightF k a c = false → K (.ret (.tup [.agg [.os i a_ n 0 0 5 len cap], .os H.length none 0 0 0 1 0 0, .v (.int .i64 2)])) (H ++ [lI 0 [] [] true])) ∧
      (∀ (l' : List (Int × RC)) (g : List Int) (a' : Option Addr) (n' c' : Nat) (S' : List Nat) (b' : Option Addr) (m' d' : Nat) (R' : List Nat), rightF k a c = true → rmoveO k a c l l' g → l'.length ≤ c' →
        K (.ret (.tup [.agg [.os H.length a' n' 0 0 5 l'.length c'], .os (H.length + 1) b' m' 0 0 1 g.length d', .v (.int .i64 0)])) (H ++ [itB n' l' S' true, lI m' g R' true]))
  | _ => False
end Go.Eng
namespace Go.Proofs.Ytjnehpljhnlbfaa
open Go Go.Eng Go.Sp Go.Op
set_option linter.unusedVariables false
set_option linter.unusedSimpArgs false
set_option maxHeartbeats 1000000 in
theorem radd_lc (a : Option Addr) (n cap : Nat) (l : List (Int × RC)) (S : List Nat) (id : Int) (q : RC) (hl : l.length ≤ 100000) (hc : l.length ≤ cap) :
    LC Try.prog 44 [.agg [.os 0 a n 0 0 5 l.length cap], .v (.int .i64 id), rcV q] [itB n l S false] (raddR a n cap l id q) :=
  radd_vc tbD0_ok a n cap l S id q (by
    intro n1 n2 n3
    refine ⟨rfl, br_intro (fun hb => ?_) (fun hb => ?_)⟩
    · repeat refine ⟨rfl, ?_⟩
      have hb' : okR q.t q.l q.b q.r = false := by simpa using hb
      have hq : okQ q = false := hb'
      exact .inl ⟨2, by unfold addD; rw [if_pos hq], rfl⟩
    have hb' : okR q.t q.l q.b q.r = true := by simpa using hb
    have hq : okQ q = true := hb'
    have hqn : ¬ okQ q = false := by rw [hq]; decide
    repeat refine ⟨rfl, ?_⟩
    refine ⟨l, S, none, false, rfl, rfl, hl, fun q1 b9 hg hz n12 => ?_⟩
    repeat refine ⟨rfl, ?_⟩
    refine br_intro (fun hb9 => ?_) (fun hb9 => ?_)
    · repeat refine ⟨rfl, ?_⟩
      rw [hb9, if_pos rfl] at hg
      exact .inl ⟨9, by unfold addD; rw [if_neg hqn, hg]; rfl, rfl⟩
    have hg' : (getL l id).isSome = false := by rw [hg, hb9]; rfl
    repeat refine ⟨rfl, ?_⟩
    refine br_intro (fun hbig => ?_) (fun hbig => ?_)
    · repeat refine ⟨rfl, ?_⟩
      have hbig := of_decide_eq_true hbig
      exact .inl ⟨7, by unfold addD; rw [if_neg hqn, hg', if_neg (by decide), if_pos (by omega)], rfl⟩
    have hbig := of_decide_eq_false hbig
    repeat refine ⟨rfl, ?_⟩
    refine ⟨⟨0, ⟨Nat.zero_le _, fun j hj => absurd hj (Nat.not_lt_zero _)⟩, ⟨rfl, rfl, rfl, rfl, rfl, rfl, rfl, rfl, trivial⟩, LeH.refl _⟩, fun i hi => ?_⟩
    obtain ⟨hi, hlo⟩ := hi
    have hi2 : 0 + (i : Int).toNat = i := by omega
    have hi3 : (i : Int).toNat = i := by omega
    repeat refine ⟨rfl, ?_⟩
    have tail1 : addW l id i → ∃ x : List (Int × RC), x = l.take i ∧ x.length = i := fun h => ⟨_, rfl, by rw [List.length_take]; omega⟩
    refine br_intro (fun hlt => ?_) (fun hge => ?_)
    · have hlt := of_decide_eq_true hlt
      have hlt2 : i < l.length := by omega
      have hw : IntKind.i64.wrap ((i : Int) + 1) = ((i + 1 : Nat) : Int) := by rw [w64 (by omega)]; rfl
      rw [hi2, hw]
      repeat refine ⟨rfl, ?_⟩
      refine ⟨by omega, ?_⟩
      repeat refine ⟨rfl, ?_⟩
      refine ⟨hlt2, br_intro (fun hd => ?_) (fun hd => ?_)⟩
      · have hd := of_decide_eq_true hd
        refine ⟨i + 1, ⟨hlt2, fun j h => ?_⟩, by omega, ⟨rfl, rfl, rfl, rfl, rfl, rfl, rfl, rfl, trivial⟩, LeH.refl _⟩
        rcases Nat.lt_or_ge j i with h3 | h3
        · exact hlo j h3
        · obtain rfl : j = i := by omega
          exact hd
      · have hd := of_decide_eq_false hd
        have hW : addW l id i := ⟨hi, hlo, .inr hd⟩
        have hxl : (l.take i).length = i := by rw [List.length_take]; omega
        refine ⟨fun n15 => ?_, fun x hx => ?_⟩
        · repeat refine ⟨rfl, ?_⟩
          rw [hi3]
          refine ⟨by omega, by omega, fun a' _ => ?_⟩
          repeat refine ⟨rfl, ?_⟩
          refine ⟨by omega, l.take i, by rw [List.drop_zero, Nat.sub_zero], ⟨by omega, by omega⟩, fun a5 n20 n21 S5 k1 k2 w hw => ⟨⟨i, a5, n20, n21, S5⟩, ⟨hW, by rw [hxl] at k2; exact k2, by rw [hxl] at k1; exact k1⟩, ⟨rfl, by rw [hxl]; rfl, rfl, rfl, rfl, rfl, rfl, trivial⟩, ?_⟩⟩
          exact (To.refl hw).at [0, 1, 2, 3, 4, 6] (by decide) ⟨LeB.refl _, LeB.refl _, LeB.refl _, LeB.refl _, LeB.refl _, LeB.refl _, trivial⟩
        · obtain ⟨hx, hxe, hxc⟩ := hx
          have hxi := hx.le
          have hxl2 : (l.take x.i).length = x.i := by rw [List.length_take]; omega
          have hx3 : (x.i : Int).toNat = x.i := by omega
          refine ⟨rfl, fun n17 => ?_⟩
          repeat refine ⟨rfl, ?_⟩
          refine ⟨by omega, Nat.le_refl _, hxe, hxc, ⟨by omega, by omega⟩, fun a' n19 n20 S5 k1 k2 => ?_⟩
          repeat refine ⟨rfl, ?_⟩
          rw [hx3]
          refine ⟨by omega, hc, Nat.le_refl _, fun a6 _ => ?_⟩
          repeat refine ⟨rfl, ?_⟩
          have hdl : (l.drop x.i).length = l.length - x.i := List.length_drop
          refine ⟨by omega, l.drop x.i, by rw [Nat.zero_add, List.take_of_length_le (by omega)], ?_⟩
          repeat refine ⟨rfl, ?_⟩
          refine ⟨by rw [List.take_take, Nat.min_self, List.length_append, hxl2]; exact Nat.le_refl _, Nat.le_refl _, fun h => absurd h (by omega), k1, ⟨by omega, by omega⟩, fun a7 n28 n29 S6 k3 k4 => ?_⟩
          repeat refine ⟨rfl, ?_⟩
          obtain ⟨t1, t2⟩ := addW_eq hx
          have e : List.take (x.i + 1) (List.take x.i (List.take x.i l) ++ [(id, RC.mk q.t q.l q.b q.r)]) ++ l.drop x.i = insD l id q := by
            rw [List.take_take, Nat.min_self, List.take_of_length_le (by rw [List.length_append, hxl2]; exact Nat.le_refl _), t1, t2]
            unfold insD
            rw [List.append_assoc]
            rfl
          have el : (insD l id q).length = x.i + 1 + (l.drop x.i).length := by rw [insD_len]; omega
          refine .inr ⟨insD l id q, a7, n28, n29, S6, by unfold addD; rw [if_neg hqn, hg', if_neg (by decide), if_neg (by omega)], by rw [el]; exact k3, by rw [el]; rfl, ?_⟩
          refine leAt [5] (by decide) ⟨?_, trivial⟩
          rw [← e]
          exact LeB.dl (fun h => h) (.inl rfl)
    · have hge := of_decide_eq_false hge
      have hW : addW l id i := ⟨hi, hlo, .inl (by omega)⟩
      have hxl : (l.take i).length = i := by rw [List.length_take]; omega
      refine ⟨fun n15 => ?_, fun x hx => ?_⟩
      · repeat refine ⟨rfl, ?_⟩
        rw [hi3]
        refine ⟨by omega, by omega, fun a' _ => ?_⟩
        repeat refine ⟨rfl, ?_⟩
        refine ⟨by omega, l.take i, by rw [List.drop_zero, Nat.sub_zero], ⟨by omega, by omega⟩, fun a5 n20 n21 S5 k1 k2 w hw => ⟨⟨i, a5, n20, n21, S5⟩, ⟨hW, by rw [hxl] at k2; exact k2, by rw [hxl] at k1; exact k1⟩, ⟨rfl, by rw [hxl]; rfl, rfl, rfl, rfl, rfl, rfl, trivial⟩, ?_⟩⟩
        exact (To.refl hw).at [0, 1, 2, 3, 4, 6] (by decide) ⟨LeB.refl _, LeB.refl _, LeB.refl _, LeB.refl _, LeB.refl _, LeB.refl _, trivial⟩
      · obtain ⟨hx, hxe, hxc⟩ := hx
        have hxi := hx.le
        have hxl2 : (l.take x.i).length = x.i := by rw [List.length_take]; omega
        have hx3 : (x.i : Int).toNat = x.i := by omega
        refine ⟨rfl, fun n17 => ?_⟩
        repeat refine ⟨rfl, ?_⟩
        refine ⟨by omega, Nat.le_refl _, hxe, hxc, ⟨by omega, by omega⟩, fun a' n19 n20 S5 k1 k2 => ?_⟩
        repeat refine ⟨rfl, ?_⟩
        rw [hx3]
        refine ⟨by omega, hc, Nat.le_refl _, fun a6 _ => ?_⟩
        repeat refine ⟨rfl, ?_⟩
        have hdl : (l.drop x.i).length = l.length - x.i := List.length_drop
        refine ⟨by omega, l.drop x.i, by rw [Nat.zero_add, List.take_of_length_le (by omega)], ?_⟩
        repeat refine ⟨rfl, ?_⟩
        refine ⟨by rw [List.take_take, Nat.min_self, List.length_append, hxl2]; exact Nat.le_refl _, Nat.le_refl _, fun h => absurd h (by omega), k1, ⟨by omega, by omega⟩, fun a7 n28 n29 S6 k3 k4 => ?_⟩
        repeat refine ⟨rfl, ?_⟩
        obtain ⟨t1, t2⟩ := addW_eq hx
        have e : List.take (x.i + 1) (List.take x.i (List.take x.i l) ++ [(id, RC.mk q.t q.l q.b q.r)]) ++ l.drop x.i = insD l id q := by
          rw [List.take_take, Nat.min_self, List.take_of_length_le (by rw [List.length_append, hxl2]; exact Nat.le_refl _), t1, t2]
          unfold insD
          rw [List.append_assoc]
          rfl
        have el : (insD l id q).length = x.i + 1 + (l.drop x.i).length := by rw [insD_len]; omega
        refine .inr ⟨insD l id q, a7, n28, n29, S6, by unfold addD; rw [if_neg hqn, hg', if_neg (by decide), if_neg (by omega)], by rw [el]; exact k3, by rw [el]; rfl, ?_⟩
        refine leAt [5] (by decide) ⟨?_, trivial⟩
        rw [← e]
        exact LeB.dl (fun h => h) (.inl rfl))
theorem raddH_ok : HOk Try.prog 44 raddH := HOk.of_make (enters_of (c := body Try.f44) Try.func44 rfl (by kernel_rfl)) fun rs args H K hk => by
  unfold raddH at hk
  split at hk
  · rename_i i a n len cap id qt ql qb qr
    obtain ⟨l, S, wr, own, h1, rfl, hl, hc, hk1, hk2⟩ := hk
    refine ⟨_, [.agg [.os 0 a n 0 0 5 l.length cap], .v (.int .i64 id), rcV ⟨qt, ql, qb, qr⟩], _, leAt (H := H) [i] (by simp) ?_, ?_, rfl, radd_lc a n cap l S id ⟨qt, ql, qb, qr⟩ hl hc, fun z H' hz => ?_⟩
    · simp only [pickH, h1]
      exact ⟨LeB.dl (fun h => by cases h) (.inl rfl), trivial⟩
    · intro b hb
      cases List.mem_singleton.1 hb
      rfl
    · rcases hz with ⟨code, e1, e2⟩ | ⟨l', a', n', c', S', e1, e2, e3, e4⟩
      · refine ⟨.tup [.agg [.os i a n 0 0 5 l.length cap], .v (.int .i64 code)], [], e2.symm, ⟨fun w hw => holds_nil w, fun i b hi => by cases hi⟩, fun b hb => (by cases hb), ?_⟩
        rw [List.append_nil]
        exact hk1 code ⟨e1⟩
      · refine ⟨.tup [.agg [.os H.length a' n' 0 0 5 l'.length c'], .v (.int .i64 0)], _, e3.symm, e4, ?_, hk2 l' a' n' c' S' ⟨e1⟩ e2⟩
        intro b hb
        cases List.mem_singleton.1 hb
        rfl
  · exact hk.elim
set_option maxHeartbeats 1000000 in
theorem rmove_lc (a_ : Option Addr) (n cap : Nat) (l : List (Int × RC)) (S : List Nat) (k a c : Int) (hl : l.length ≤ 100000) :
    LC Try.prog 46 [.agg [.os 0 a_ n 0 0 5 l.length cap], .agg [.v (.int .i64 k), .v (.int .i64 a), .v (.int .i64 c)]] [itB n l S false] (rmoveR a_ n cap l k a c) :=
  rmove_vc tbD0_ok a_ n cap l S k a c (by
    intro n1 n2 n3
    refine ⟨rfl, br_intro (fun hb => ?_) (fun hb => ?_)⟩
    · repeat refine ⟨rfl, ?_⟩
      exact .inl ⟨by simpa using hb, rfl⟩
    have hr : rightF k a c = true := by simpa using hb
    repeat refine ⟨rfl, ?_⟩
    intro n4
    repeat refine ⟨rfl, ?_⟩
    refine ⟨⟨⟨0, none, 0, 0, [], none, 0, 0, []⟩, ⟨Nat.zero_le _, fun _ => .inl rfl, fun _ => .inl rfl, Nat.le_refl _⟩, ⟨rfl, rfl, rfl, rfl, rfl, rfl, rfl, rfl, trivial⟩, ?_⟩, fun x hx => ?_⟩
    · refine LeH.trans (LeH.more (b := itW 0 [] [] 0) rfl itD_nil) (LeH.trans (LeH.more (b := inW 0 [] [] 0) rfl fun w => lst_nil (.inr ⟨_, rfl, rfl⟩)) ?_)
      exact leAt [0, 1, 2, 3, 4, 5, 6] (by decide) ⟨LeB.refl _, LeB.refl _, LeB.refl _, LeB.refl _, LeB.cells rfl (fun h => h), LeB.refl _, LeB.refl _, trivial⟩
    obtain ⟨hi, he, he2, hcp⟩ := hx
    have hi2 : 0 + (x.i : Int).toNat = x.i := by omega
    have hml := movD_len k a c l x.i
    have hgl := gonD_len k a c l x.i
    repeat refine ⟨rfl, ?_⟩
    refine br_intro (fun hlt => ?_) (fun hge => ?_)
    · have hlt := of_decide_eq_true hlt
      have hlt2 : x.i < l.length := by omega
      have hw : IntKind.i64.wrap ((x.i : Int) + 1) = ((x.i + 1 : Nat) : Int) := by rw [w64 (by omega)]; rfl
      have hkm := movD_succ (k := k) (a := a) (c := c) hlt2
      have hkg := gonD_succ (k := k) (a := a) (c := c) hlt2
      rw [hi2, hw]
      repeat refine ⟨rfl, ?_⟩
      refine ⟨by omega, ?_⟩
      repeat refine ⟨rfl, ?_⟩
      refine ⟨hlt2, ?_⟩
      refine ⟨?_, ?_⟩
      all_goals
        intro n7
        repeat refine ⟨rfl, ?_⟩
        refine br_intro (fun hd => ?_) (fun hd => ?_)
        · have hd : (!rrOkQ k a c (itAt l x.i).2) = true := hd
          have hd : rrOkQ k a c (itAt l x.i).2 = false := by simpa using hd
          rw [hd, if_neg (by decide)] at hkm hkg
          rw [List.append_nil] at hkm
          have hgl2 : (gonD k a c l (x.i + 1)).length = (gonD k a c l x.i).length + 1 := by rw [hkg, List.length_append]; rfl
          repeat refine ⟨rfl, ?_⟩
          refine ⟨by omega, ?_⟩
          repeat refine ⟨rfl, ?_⟩
          refine ⟨hlt2, fun n8 => ?_⟩
          repeat refine ⟨rfl, ?_⟩
          refine ⟨Nat.le_refl _, rfl, he2, ⟨by omega, by omega⟩, fun a' n10 n11 S' k1 k2 => ⟨⟨x.i + 1, x.a, x.n, x.cap, x.S, a', n10, n11, S'⟩, ⟨hlt2, by rw [hkm]; exact he, by rw [hgl2]; exact k2, by rw [hkm]; exact hcp⟩, by simp only; omega, ⟨rfl, by rw [hgl2], rfl, rfl, rfl, rfl, rfl, rfl, trivial⟩, ?_⟩⟩
          rw [hkm]
          exact leAt [0, 1, 2, 3, 4, 5, 6] (by decide) ⟨LeB.refl _, LeB.refl _, LeB.refl _, LeB.refl _, LeB.refl _, LeB.refl _, snocB hkg, trivial⟩
        · have hd : (!rrOkQ k a c (itAt l x.i).2) = false := hd
          have hd : rrOkQ k a c (itAt l x.i).2 = true := by simpa using hd
          rw [hd, if_pos rfl] at hkm hkg
          rw [List.append_nil] at hkg
          have hml2 : (movD k a c l (x.i + 1)).length = (movD k a c l x.i).length + 1 := by rw [hkm, List.length_append]; rfl
          repeat refine ⟨rfl, ?_⟩
          refine ⟨by omega, ?_⟩
          repeat refine ⟨rfl, ?_⟩
          refine ⟨hlt2, ?_⟩
          repeat refine ⟨rfl, ?_⟩
          intro n8
          repeat refine ⟨rfl, ?_⟩
          refine ⟨Nat.le_refl _, Nat.le_refl _, he, hcp, ⟨by omega, by omega⟩, fun a' n10 n11 S' k1 k2 => ?_⟩
          repeat refine ⟨rfl, ?_⟩
          refine ⟨⟨x.i + 1, a', n10, n11, S', x.b, x.m, x.cop, x.R⟩, ⟨hlt2, by rw [hml2]; exact k2, by rw [hkg]; exact he2, by rw [hml2]; exact k1⟩, by simp only; omega, ⟨rfl, by rw [hkg], rfl, rfl, rfl, rfl, rfl, rfl, trivial⟩, ?_⟩
          rw [hkg]
          exact leAt [0, 1, 2, 3, 4, 5, 6] (by decide) ⟨LeB.refl _, LeB.refl _, LeB.refl _, LeB.refl _, LeB.cells (by rw [hml2]) (fun h => h), snocD hkm, LeB.refl _, trivial⟩
    · have hge := of_decide_eq_false hge
      have ei : x.i = l.length := by omega
      repeat refine ⟨rfl, ?_⟩
      refine .inr ⟨movD k a c l x.i, gonD k a c l x.i, x.a, x.n, x.cap, x.S, x.b, x.m, x.cop, x.R, hr, ⟨by unfold movD; rw [ei, List.take_length], by unfold gonD; rw [ei, List.take_length]⟩, hcp, rfl, ?_⟩
      exact leAt [5, 6] (by decide) ⟨LeB.dl (fun h => h) (.inl rfl), LeB.ints (Nat.le_refl _) (fun h => h) (.inl rfl) fun i hi => rfl, trivial⟩)
theorem rmoveH_ok : HOk Try.prog 46 rmoveH := HOk.of_make (enters_of (c := body Try.f46) Try.func46 rfl (by kernel_rfl)) fun rs args H K hk => by
  unfold rmoveH at hk
  split at hk
  · rename_i i a_ n len cap k a c
    obtain ⟨l, S, wr, own, h1, rfl, hl, hk1, hk2⟩ := hk
    refine ⟨_, [.agg [.os 0 a_ n 0 0 5 l.length cap], .agg [.v (.int .i64 k), .v (.int .i64 a), .v (.int .i64 c)]], _, leAt (H := H) [i] (by simp) ?_, ?_, rfl, rmove_lc a_ n cap l S k a c hl, fun z H' hz => ?_⟩
    · simp only [pickH, h1]
      exact ⟨LeB.dl (fun h => by cases h) (.inl rfl), trivial⟩
    · intro b hb
      cases List.mem_singleton.1 hb
      rfl
    · rcases hz with ⟨e1, e2⟩ | ⟨l', g, a', n', c', S', b', m', d', R', e0, e1, e2, e3, e4⟩
      · refine ⟨.tup [.agg [.os i a_ n 0 0 5 l.length cap], .os H.length none 0 0 0 1 0 0, .v (.int .i64 2)], [lI 0 [] [] true], e2.symm, LeH.nilI _, ?_, hk1 e1⟩
        intro b hb
        cases List.mem_singleton.1 hb
        rfl
      · refine ⟨.tup [.agg [.os H.length a' n' 0 0 5 l'.length c'], .os (H.length + 1) b' m' 0 0 1 g.length d', .v (.int .i64 0)], _, e3.symm, e4, ?_, hk2 l' g a' n' c' S' b' m' d' R' e0 e1 e2⟩
        intro b hb
        simp at hb
        rcases hb with rfl | rfl <;> rfl
  · exact hk.elim
end Go.Proofs.Ytjnehpljhnlbfaa
