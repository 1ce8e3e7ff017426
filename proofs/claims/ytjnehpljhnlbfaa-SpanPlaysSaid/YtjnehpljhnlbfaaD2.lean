import Derived.Test.YtjnehpljhnlbfaaD1
namespace Go.Sp
open Go Go.Eng Go.Op Go.Proofs.Ytjnehpljhnlbfaa
theorem itAt_get {l : List (Int × RC)} {i : Nat} (h : i < l.length) : itAt l i = l[i] := by
  unfold itAt dAt
  rw [List.getElem?_eq_getElem h]; rfl
theorem itAt_z (l : List (Int × RC)) (i : Nat) : dAt l itD.z i = itAt l i := rfl
theorem tk_succ {l : List (Int × RC)} {i : Nat} (h : i < l.length) : l.take (i + 1) = l.take i ++ [itAt l i] := by
  rw [List.take_succ_eq_append_getElem h, itAt_get h]
theorem keepD_succ {id : Int} {l : List (Int × RC)} {i : Nat} (h : i < l.length) : keepD id l (i + 1) = keepD id l i ++ (if (itAt l i).1 != id then [itAt l i] else []) := by
  unfold keepD
  rw [tk_succ h, List.filter_append]
  congr 1
  rw [List.filter_cons]
  rfl
theorem selD_succ {p : RC → Bool} {l : List (Int × RC)} {i : Nat} (h : i < l.length) : selD p l (i + 1) = selD p l i ++ (if p (itAt l i).2 then [(itAt l i).1] else []) := by
  unfold selD
  rw [tk_succ h, List.filter_append, List.map_append]
  congr 1
  rw [List.filter_cons]
  cases p (itAt l i).2 <;> rfl
theorem movD_succ {k a c : Int} {l : List (Int × RC)} {i : Nat} (h : i < l.length) : movD k a c l (i + 1) = movD k a c l i ++ (if rrOkQ k a c (itAt l i).2 then [((itAt l i).1, rrQ k a c (itAt l i).2)] else []) := by
  unfold movD
  rw [tk_succ h, List.filterMap_append]
  congr 1
  rw [List.filterMap_cons]
  cases rrOkQ k a c (itAt l i).2 <;> rfl
theorem gonD_succ {k a c : Int} {l : List (Int × RC)} {i : Nat} (h : i < l.length) : gonD k a c l (i + 1) = gonD k a c l i ++ (if rrOkQ k a c (itAt l i).2 then [] else [(itAt l i).1]) := by
  unfold gonD
  rw [tk_succ h, List.filter_append, List.map_append]
  congr 1
  rw [List.filter_cons]
  cases rrOkQ k a c (itAt l i).2 <;> rfl
theorem keepD_len (id : Int) (l : List (Int × RC)) (i : Nat) : (keepD id l i).length ≤ i := Nat.le_trans (List.length_filter_le _ _) (List.length_take_le _ _)
theorem selD_len (p : RC → Bool) (l : List (Int × RC)) (i : Nat) : (selD p l i).length ≤ i := by
  unfold selD
  rw [List.length_map]
  exact Nat.le_trans (List.length_filter_le _ _) (List.length_take_le _ _)
theorem movD_len (k a c : Int) (l : List (Int × RC)) (i : Nat) : (movD k a c l i).length ≤ i := Nat.le_trans (List.length_filterMap_le _ _) (List.length_take_le _ _)
theorem gonD_len (k a c : Int) (l : List (Int × RC)) (i : Nat) : (gonD k a c l i).length ≤ i := by
  unfold gonD
  rw [List.length_map]
  exact Nat.le_trans (List.length_filter_le _ _) (List.length_take_le _ _)
structure rdropO (l : List (Int × RC)) (id : Int) (l' : List (Int × RC)) (b : Bool) : Prop where
  is : l' = l.filter fun x => x.1 != id
  hb : b = decide (l'.length < l.length)
structure rselO (p : RC → Bool) (l : List (Int × RC)) (m : List Int) : Prop where
  is : m = (l.filter fun x => p x.2).map (·.1)
theorem getL_cons' (x : Int × RC) (L : List (Int × RC)) (id : Int) : getL (x :: L) id = if x.1 == id then some x.2 else getL L id := by
  unfold getL
  rw [List.find?_cons]
  cases x.1 == id <;> rfl
theorem getL_none {id : Int} : ∀ {l : List (Int × RC)}, (∀ j, j < l.length → (itAt l j).1 ≠ id) → getL l id = none
  | [], _ => rfl
  | x :: l, h => by
    rw [getL_cons']
    have h0 : x.1 ≠ id := h 0 (by simp)
    have e : (x.1 == id) = false := by simpa using h0
    rw [e]
    exact getL_none fun j hj => h (j + 1) (by simp; omega)
theorem getL_at {id : Int} : ∀ {l : List (Int × RC)} {i : Nat}, i < l.length → (∀ j, j < i → (itAt l j).1 ≠ id) → (itAt l i).1 = id → getL l id = some (itAt l i).2
  | [], _, h, _, _ => absurd h (Nat.not_lt_zero _)
  | x :: l, 0, _, _, h => by
    rw [getL_cons']
    have h' : x.1 = id := h
    have e : (x.1 == id) = true := by simpa using h'
    rw [e]
    rfl
  | x :: l, i + 1, hi, hj, h => by
    rw [getL_cons']
    have h0 : x.1 ≠ id := hj 0 (by omega)
    have e : (x.1 == id) = false := by simpa using h0
    rw [e]
    exact getL_at (l := l) (i := i) (by simpa using hi) (fun j hj' => hj (j + 1) (by omega)) h
end Go.Sp
namespace Go.Eng
open Go Go.Sp Go.Op Go.Proofs.Ytjnehpljhnlbfaa
theorem snocD {n : Nat} {L M : List (Int × RC)} {x : Int × RC} {S : List Nat} {cap : Nat} (h : M = L ++ [x]) : LeB ⟨n, .dl (Int × RC) itD 0 (List.take L.length L ++ [(x.1, RC.mk x.2.t x.2.l x.2.b x.2.r)]) S (some (cap, 115)) none, true⟩ (itW n M S cap) := by
  rw [h, List.take_length]
  exact LeB.refl _
theorem itD_nil (w : World) : (Cont.dl (Int × RC) itD 0 [] [] (some (0, 115)) none).holds w 0 :=
  ⟨itD_ok, fun f fv e => (by cases e), fun k hk => (by cases hk), fun hn => absurd hn (Nat.lt_irrefl _), fun cap t e => by cases e; exact ⟨rfl, Nat.le_refl _, fun h => absurd h (Nat.lt_irrefl _)⟩⟩
def rdropH : Handler := fun _ args H K =>
  match args with
  | [.agg [.os i a n 0 0 5 len cap], .v (.int .i64 id)] => ∃ (l : List (Int × RC)) (S : List Nat) (wr : Option (Nat × TypeId)) (own : Bool), nth H i = some ⟨n, .dl (Int × RC) itD 0 l S wr none, own⟩ ∧ len = l.length ∧ l.length ≤ 100000 ∧
      ∀ (l' : List (Int × RC)) (b : Bool) (a' : Option Addr) (n' c' : Nat) (S' : List Nat), rdropO l id l' b → l'.length ≤ c' → K (.ret (.tup [.agg [.os H.length a' n' 0 0 5 l'.length c'], .v (.bool b)])) (H ++ [itB n' l' S' true])
  | _ => False
def rmeetH : Handler := fun _ args H K =>
  match args with
  | [.agg [.os i a n 0 0 5 len cap], .agg [.v (.int .i64 t), .v (.int .i64 lf), .v (.int .i64 b), .v (.int .i64 r)]] => ∃ (l : List (Int × RC)) (S : List Nat) (wr : Option (Nat × TypeId)) (own : Bool), nth H i = some ⟨n, .dl (Int × RC) itD 0 l S wr none, own⟩ ∧ len = l.length ∧ l.length ≤ 100000 ∧
      ∀ (m : List Int) (a' : Option Addr) (n' c' : Nat) (S' : List Nat), rselO (fun x => mt x.t x.l x.b x.r t lf b r) l m → K (.ret (.os H.length a' n' 0 0 1 m.length c')) (H ++ [lI n' m S' true])
  | _ => False
def rstabH : Handler := fun _ args H K =>
  match args with
  | [.agg [.os i a n 0 0 5 len cap], .agg [.v (.int .i64 y), .v (.int .i64 x)]] => ∃ (l : List (Int × RC)) (S : List Nat) (wr : Option (Nat × TypeId)) (own : Bool), nth H i = some ⟨n, .dl (Int × RC) itD 0 l S wr none, own⟩ ∧ len = l.length ∧ l.length ≤ 100000 ∧
      ∀ (m : List Int) (a' : Option Addr) (n' c' : Nat) (S' : List Nat), rselO (fun q => inF q.t q.l q.b q.r y x) l m → K (.ret (.os H.length a' n' 0 0 1 m.length c')) (H ++ [lI n' m S' true])
  | _ => False
end Go.Eng
namespace Go.Proofs.Ytjnehpljhnlbfaa
open Go Go.Eng Go.Sp Go.Op
set_option linter.unusedVariables false
set_option linter.unusedSimpArgs false
theorem rget_lc (a : Option Addr) (n cap : Nat) (l : List (Int × RC)) (S : List Nat) (id : Int) (hl : l.length ≤ 100000) :
    LC Try.prog 48 [.agg [.os 0 a n 0 0 5 l.length cap], .v (.int .i64 id)] [itB n l S false] (fun z _ => z.den = (AV.tup [rcV ((getL l id).getD ⟨0, 0, 0, 0⟩), .v (.bool (getL l id).isSome)]).den) :=
  rget_vc a n cap l S id (by
    intro n1 n2
    refine ⟨⟨0, ⟨Nat.zero_le _, fun j hj => absurd hj (Nat.not_lt_zero _)⟩, ⟨rfl, rfl, rfl, rfl, rfl, trivial⟩, LeH.refl _⟩, fun i hi => ?_⟩
    obtain ⟨hi, hj⟩ := hi
    have hi2 : 0 + (i : Int).toNat = i := by omega
    refine ⟨rfl, br_intro (fun hlt => ?_) (fun hge => ?_)⟩
    · have hlt := of_decide_eq_true hlt
      have hw : IntKind.i64.wrap ((i : Int) + 1) = ((i + 1 : Nat) : Int) := by rw [w64 (by omega)]; rfl
      rw [hi2, hw]
      repeat refine ⟨rfl, ?_⟩
      refine ⟨by omega, ?_⟩
      repeat refine ⟨rfl, ?_⟩
      refine ⟨by omega, br_intro (fun he => ?_) (fun he => ?_)⟩
      · have he' : ((itAt l i).1 == id) = true := he
        have he : (itAt l i).1 = id := by simpa using he'
        have hg := getL_at (by omega) hj he
        repeat refine ⟨rfl, ?_⟩
        refine ⟨by omega, ?_⟩
        repeat refine ⟨rfl, ?_⟩
        refine ⟨by omega, ?_⟩
        rw [hg]
        exact ⟨rfl, rfl, rfl⟩
      · have he' : ((itAt l i).1 == id) = false := he
        have he : (itAt l i).1 ≠ id := by simpa using he'
        refine ⟨i + 1, ⟨by omega, fun j h => ?_⟩, by omega, ⟨rfl, rfl, rfl, rfl, rfl, trivial⟩, LeH.refl _⟩
        rcases Nat.lt_or_ge j i with h3 | h3
        · exact hj j h3
        · obtain rfl : j = i := by omega
          exact he
    · have hge := of_decide_eq_false hge
      have hg : getL l id = none := getL_none fun j h => hj j (by omega)
      rw [hg]
      exact ⟨rfl, rfl, rfl⟩)
theorem rget_ok : HOk Try.prog 48 rgetH := HOk.of_read (enters_of (c := body Try.f48) Try.func48 rfl (by kernel_rfl)) fun rs args H K hk => by
  unfold rgetH at hk
  split at hk
  · rename_i i a n len cap id
    obtain ⟨l, S, wr, own, h1, rfl, hl, hk⟩ := hk
    refine ⟨_, [.agg [.os 0 a n 0 0 5 l.length cap], .v (.int .i64 id)], _, leAt (H := H) [i] (by simp) ?_, rfl, rfl, rget_lc a n cap l S id hl, hk _ _ ?_ fun h => ?_⟩
    · simp only [pickH, h1]
      exact ⟨LeB.dl (fun h => by cases h) (.inl rfl), trivial⟩
    · cases getL l id <;> rfl
    · cases hg : getL l id with
      | none => rfl
      | some q => rw [hg] at h; cases h
  · exact hk.elim
theorem tbD0_ok : TblOk Try.prog tbD0 := ⟨flag_ok, itD_ok, rRight_ok, eRight_ok, rRect_ok, rMeet_ok, rIn_ok, rget_ok, trivial⟩
theorem rdrop_lc (a : Option Addr) (n cap : Nat) (l : List (Int × RC)) (S : List Nat) (id : Int) (hl : l.length ≤ 100000) :
    LC Try.prog 45 [.agg [.os 0 a n 0 0 5 l.length cap], .v (.int .i64 id)] [itB n l S false] (fun z H' => ∃ (l' : List (Int × RC)) (b : Bool) (a' : Option Addr) (n' c' : Nat) (S' : List Nat), rdropO l id l' b ∧ l'.length ≤ c' ∧ z.den = (AV.tup [.agg [.os 0 a' n' 0 0 5 l'.length c'], .v (.bool b)]).den ∧ LeH H' [itB n' l' S' true]) :=
  rdrop_vc tbD0_ok a n cap l S id (by
    intro n1 n2
    refine ⟨⟨⟨0, none, 0, 0, []⟩, ⟨Nat.zero_le _, fun _ => .inl rfl, Nat.le_refl _⟩, ⟨rfl, rfl, rfl, rfl, rfl, rfl, trivial⟩, ?_⟩, fun x hx => ?_⟩
    · exact LeH.trans (LeH.more (b := itW 0 [] [] 0) rfl itD_nil) (LeH.refl _)
    obtain ⟨hi, he, hcp⟩ := hx
    have hi2 : 0 + (x.i : Int).toNat = x.i := by omega
    have hkl := keepD_len id l x.i
    refine ⟨rfl, br_intro (fun hlt => ?_) (fun hge => ?_)⟩
    · have hlt := of_decide_eq_true hlt
      have hlt2 : x.i < l.length := by omega
      have hw : IntKind.i64.wrap ((x.i : Int) + 1) = ((x.i + 1 : Nat) : Int) := by rw [w64 (by omega)]; rfl
      have hk := keepD_succ (id := id) hlt2
      rw [hi2, hw]
      repeat refine ⟨rfl, ?_⟩
      refine ⟨by omega, ?_⟩
      repeat refine ⟨rfl, ?_⟩
      refine ⟨hlt2, br_intro (fun hd => ?_) (fun hd => ?_)⟩
      · have hd : ((itAt l x.i).1 != id) = true := hd
        rw [hd, if_pos rfl] at hk
        have hkl2 : (keepD id l (x.i + 1)).length = (keepD id l x.i).length + 1 := by rw [hk, List.length_append]; rfl
        repeat refine ⟨rfl, ?_⟩
        refine ⟨by omega, ?_⟩
        repeat refine ⟨rfl, ?_⟩
        refine ⟨hlt2, fun n5 => ?_⟩
        repeat refine ⟨rfl, ?_⟩
        refine ⟨Nat.le_refl _, Nat.le_refl _, he, hcp, ⟨by omega, by omega⟩, fun a' n7 n8 S' k1 k2 => ⟨⟨x.i + 1, a', n7, n8, S'⟩, ⟨hlt2, by rw [hkl2]; exact k2, by rw [hkl2]; exact k1⟩, by simp only; omega, ⟨rfl, by rw [hkl2], rfl, rfl, rfl, rfl, trivial⟩, ?_⟩⟩
        exact leAt [0, 1, 2, 3] (by decide) ⟨LeB.refl _, LeB.refl _, LeB.refl _, snocD hk, trivial⟩
      · have hd : ((itAt l x.i).1 != id) = false := hd
        rw [hd, if_neg (by decide), List.append_nil] at hk
        exact ⟨⟨x.i + 1, x.a, x.n, x.cap, x.S⟩, ⟨hlt2, by rw [hk]; exact he, by rw [hk]; exact hcp⟩, by simp only; omega, ⟨rfl, by rw [hk], rfl, rfl, rfl, rfl, trivial⟩, by rw [hk]; exact LeH.refl _⟩
    · have hge := of_decide_eq_false hge
      have ei : x.i = l.length := by omega
      have ek : keepD id l x.i = l.filter fun x => x.1 != id := by unfold keepD; rw [ei, List.take_length]
      repeat refine ⟨rfl, ?_⟩
      refine ⟨keepD id l x.i, _, x.a, x.n, x.cap, x.S, ⟨ek, ?_⟩, hcp, rfl, ?_⟩
      · rw [decide_eq_decide]
        omega
      · exact leAt [3] (by decide) ⟨LeB.dl (fun h => h) (.inl rfl), trivial⟩)
theorem rdropH_ok : HOk Try.prog 45 rdropH := HOk.of_make (enters_of (c := body Try.f45) Try.func45 rfl (by kernel_rfl)) fun rs args H K hk => by
  unfold rdropH at hk
  split at hk
  · rename_i i a n len cap id
    obtain ⟨l, S, wr, own, h1, rfl, hl, hk⟩ := hk
    refine ⟨_, [.agg [.os 0 a n 0 0 5 l.length cap], .v (.int .i64 id)], _, leAt (H := H) [i] (by simp) ?_, ?_, rfl, rdrop_lc a n cap l S id hl, fun z H' hz => ?_⟩
    · simp only [pickH, h1]
      exact ⟨LeB.dl (fun h => by cases h) (.inl rfl), trivial⟩
    · intro b hb
      cases List.mem_singleton.1 hb
      rfl
    · obtain ⟨l', b, a', n', c', S', e1, e2, e3, e4⟩ := hz
      refine ⟨.tup [.agg [.os H.length a' n' 0 0 5 l'.length c'], .v (.bool b)], _, e3.symm, e4, ?_, hk l' b a' n' c' S' e1 e2⟩
      intro b hb
      cases List.mem_singleton.1 hb
      rfl
  · exact hk.elim
theorem rstab_lc (a : Option Addr) (n cap : Nat) (l : List (Int × RC)) (S : List Nat) (y x : Int) (hl : l.length ≤ 100000) :
    LC Try.prog 49 [.agg [.os 0 a n 0 0 5 l.length cap], .agg [.v (.int .i64 y), .v (.int .i64 x)]] [itB n l S false] (fun z H' => ∃ (m : List Int) (a' : Option Addr) (n' c' : Nat) (S' : List Nat), rselO (fun q => inF q.t q.l q.b q.r y x) l m ∧ z.den = (AV.os 0 a' n' 0 0 1 m.length c').den ∧ LeH H' [lI n' m S' true]) :=
  rstab_vc tbD0_ok a n cap l S y x (by
    intro n1 n2
    refine ⟨⟨⟨0, none, 0, 0, []⟩, ⟨Nat.zero_le _, fun _ => .inl rfl⟩, ⟨rfl, rfl, rfl, rfl, rfl, trivial⟩, ?_⟩, fun w hx => ?_⟩
    · exact LeH.trans (LeH.more (b := inW 0 [] [] 0) rfl fun w => lst_nil (.inr ⟨_, rfl, rfl⟩)) (LeH.refl _)
    obtain ⟨hi, he⟩ := hx
    have hi2 : 0 + (w.i : Int).toNat = w.i := by omega
    have hkl := selD_len (fun q => inF q.t q.l q.b q.r y x) l w.i
    refine ⟨rfl, br_intro (fun hlt => ?_) (fun hge => ?_)⟩
    · have hlt := of_decide_eq_true hlt
      have hlt2 : w.i < l.length := by omega
      have hw : IntKind.i64.wrap ((w.i : Int) + 1) = ((w.i + 1 : Nat) : Int) := by rw [w64 (by omega)]; rfl
      have hk := selD_succ (p := fun q => inF q.t q.l q.b q.r y x) hlt2
      rw [hi2, hw]
      repeat refine ⟨rfl, ?_⟩
      refine ⟨by omega, ?_⟩
      repeat refine ⟨rfl, ?_⟩
      refine ⟨hlt2, ?_⟩
      repeat refine ⟨rfl, ?_⟩
      refine br_intro (fun hd => ?_) (fun hd => ?_)
      · have hd : inF (itAt l w.i).2.t (itAt l w.i).2.l (itAt l w.i).2.b (itAt l w.i).2.r y x = true := hd
        rw [hd, if_pos rfl] at hk
        have hkl2 : (selD (fun q => inF q.t q.l q.b q.r y x) l (w.i + 1)).length = (selD (fun q => inF q.t q.l q.b q.r y x) l w.i).length + 1 := by rw [hk, List.length_append]; rfl
        repeat refine ⟨rfl, ?_⟩
        refine ⟨by omega, ?_⟩
        repeat refine ⟨rfl, ?_⟩
        refine ⟨hlt2, fun n5 => ?_⟩
        repeat refine ⟨rfl, ?_⟩
        refine ⟨Nat.le_refl _, rfl, he, ⟨by omega, by omega⟩, fun a' n7 n8 S' k1 k2 => ⟨⟨w.i + 1, a', n7, n8, S'⟩, ⟨hlt2, by rw [hkl2]; exact k2⟩, by simp only; omega, ⟨rfl, by rw [hkl2], rfl, rfl, rfl, trivial⟩, ?_⟩⟩
        exact leAt [0, 1, 2, 3] (by decide) ⟨LeB.refl _, LeB.refl _, LeB.refl _, snocB hk, trivial⟩
      · have hd : inF (itAt l w.i).2.t (itAt l w.i).2.l (itAt l w.i).2.b (itAt l w.i).2.r y x = false := hd
        rw [hd, if_neg (by decide), List.append_nil] at hk
        exact ⟨⟨w.i + 1, w.a, w.n, w.cap, w.S⟩, ⟨hlt2, by rw [hk]; exact he⟩, by simp only; omega, ⟨rfl, by rw [hk], rfl, rfl, rfl, trivial⟩, by rw [hk]; exact LeH.refl _⟩
    · have hge := of_decide_eq_false hge
      have ei : w.i = l.length := by omega
      refine ⟨selD (fun q => inF q.t q.l q.b q.r y x) l w.i, w.a, w.n, w.cap, w.S, ⟨by unfold selD; rw [ei, List.take_length]⟩, rfl, ?_⟩
      exact leAt [3] (by decide) ⟨LeB.ints (Nat.le_refl _) (fun h => h) (.inl rfl) fun i hi => rfl, trivial⟩)
theorem rmeet_lc (a : Option Addr) (n cap : Nat) (l : List (Int × RC)) (S : List Nat) (q : RC) (hl : l.length ≤ 100000) :
    LC Try.prog 47 [.agg [.os 0 a n 0 0 5 l.length cap], rcV q] [itB n l S false] (fun z H' => ∃ (m : List Int) (a' : Option Addr) (n' c' : Nat) (S' : List Nat), rselO (fun x => mt x.t x.l x.b x.r q.t q.l q.b q.r) l m ∧ z.den = (AV.os 0 a' n' 0 0 1 m.length c').den ∧ LeH H' [lI n' m S' true]) :=
  rmeet_vc tbD0_ok a n cap l S q (by
    intro n1 n2
    refine ⟨⟨⟨0, none, 0, 0, []⟩, ⟨Nat.zero_le _, fun _ => .inl rfl⟩, ⟨rfl, rfl, rfl, rfl, rfl, trivial⟩, ?_⟩, fun w hx => ?_⟩
    · exact LeH.trans (LeH.more (b := inW 0 [] [] 0) rfl fun w => lst_nil (.inr ⟨_, rfl, rfl⟩)) (LeH.refl _)
    obtain ⟨hi, he⟩ := hx
    have hi2 : 0 + (w.i : Int).toNat = w.i := by omega
    have hkl := selD_len (fun x => mt x.t x.l x.b x.r q.t q.l q.b q.r) l w.i
    refine ⟨rfl, br_intro (fun hlt => ?_) (fun hge => ?_)⟩
    · have hlt := of_decide_eq_true hlt
      have hlt2 : w.i < l.length := by omega
      have hw : IntKind.i64.wrap ((w.i : Int) + 1) = ((w.i + 1 : Nat) : Int) := by rw [w64 (by omega)]; rfl
      have hk := selD_succ (p := fun x => mt x.t x.l x.b x.r q.t q.l q.b q.r) hlt2
      rw [hi2, hw]
      repeat refine ⟨rfl, ?_⟩
      refine ⟨by omega, ?_⟩
      repeat refine ⟨rfl, ?_⟩
      refine ⟨hlt2, ?_⟩
      repeat refine ⟨rfl, ?_⟩
      refine ⟨?_, ?_⟩
      all_goals
        intro n5
        repeat refine ⟨rfl, ?_⟩
        refine br_intro (fun hd => ?_) (fun hd => ?_)
        · have hd : mt (itAt l w.i).2.t (itAt l w.i).2.l (itAt l w.i).2.b (itAt l w.i).2.r q.t q.l q.b q.r = true := hd
          rw [hd, if_pos rfl] at hk
          have hkl2 : (selD (fun x => mt x.t x.l x.b x.r q.t q.l q.b q.r) l (w.i + 1)).length = (selD (fun x => mt x.t x.l x.b x.r q.t q.l q.b q.r) l w.i).length + 1 := by rw [hk, List.length_append]; rfl
          repeat refine ⟨rfl, ?_⟩
          refine ⟨by omega, ?_⟩
          repeat refine ⟨rfl, ?_⟩
          refine ⟨hlt2, fun n5 => ?_⟩
          repeat refine ⟨rfl, ?_⟩
          refine ⟨Nat.le_refl _, rfl, he, ⟨by omega, by omega⟩, fun a' n7 n8 S' k1 k2 => ⟨⟨w.i + 1, a', n7, n8, S'⟩, ⟨hlt2, by rw [hkl2]; exact k2⟩, by simp only; omega, ⟨rfl, by rw [hkl2], rfl, rfl, rfl, trivial⟩, ?_⟩⟩
          exact leAt [0, 1, 2, 3] (by decide) ⟨LeB.refl _, LeB.refl _, LeB.refl _, snocB hk, trivial⟩
        · have hd : mt (itAt l w.i).2.t (itAt l w.i).2.l (itAt l w.i).2.b (itAt l w.i).2.r q.t q.l q.b q.r = false := hd
          rw [hd, if_neg (by decide), List.append_nil] at hk
          exact ⟨⟨w.i + 1, w.a, w.n, w.cap, w.S⟩, ⟨hlt2, by rw [hk]; exact he⟩, by simp only; omega, ⟨rfl, by rw [hk], rfl, rfl, rfl, trivial⟩, by rw [hk]; exact leAt [0, 1, 2, 3] (by decide) ⟨LeB.refl _, LeB.refl _, LeB.refl _, LeB.refl _, trivial⟩⟩
    · have hge := of_decide_eq_false hge
      have ei : w.i = l.length := by omega
      refine ⟨selD (fun x => mt x.t x.l x.b x.r q.t q.l q.b q.r) l w.i, w.a, w.n, w.cap, w.S, ⟨by unfold selD; rw [ei, List.take_length]⟩, rfl, ?_⟩
      exact leAt [3] (by decide) ⟨LeB.ints (Nat.le_refl _) (fun h => h) (.inl rfl) fun i hi => rfl, trivial⟩)
theorem rmeetH_ok : HOk Try.prog 47 rmeetH := HOk.of_make (enters_of (c := body Try.f47) Try.func47 rfl (by kernel_rfl)) fun rs args H K hk => by
  unfold rmeetH at hk
  split at hk
  · rename_i i a n len cap t lf b r
    obtain ⟨l, S, wr, own, h1, rfl, hl, hk⟩ := hk
    refine ⟨_, [.agg [.os 0 a n 0 0 5 l.length cap], rcV ⟨t, lf, b, r⟩], _, leAt (H := H) [i] (by simp) ?_, ?_, rfl, rmeet_lc a n cap l S ⟨t, lf, b, r⟩ hl, fun z H' hz => ?_⟩
    · simp only [pickH, h1]
      exact ⟨LeB.dl (fun h => by cases h) (.inl rfl), trivial⟩
    · intro b hb
      cases List.mem_singleton.1 hb
      rfl
    · obtain ⟨m, a', n', c', S', e1, e3, e4⟩ := hz
      refine ⟨.os H.length a' n' 0 0 1 m.length c', _, e3.symm, e4, ?_, hk m a' n' c' S' e1⟩
      intro b hb
      cases List.mem_singleton.1 hb
      rfl
  · exact hk.elim
theorem rstabH_ok : HOk Try.prog 49 rstabH := HOk.of_make (enters_of (c := body Try.f49) Try.func49 rfl (by kernel_rfl)) fun rs args H K hk => by
  unfold rstabH at hk
  split at hk
  · rename_i i a n len cap y x
    obtain ⟨l, S, wr, own, h1, rfl, hl, hk⟩ := hk
    refine ⟨_, [.agg [.os 0 a n 0 0 5 l.length cap], .agg [.v (.int .i64 y), .v (.int .i64 x)]], _, leAt (H := H) [i] (by simp) ?_, ?_, rfl, rstab_lc a n cap l S y x hl, fun z H' hz => ?_⟩
    · simp only [pickH, h1]
      exact ⟨LeB.dl (fun h => by cases h) (.inl rfl), trivial⟩
    · intro b hb
      cases List.mem_singleton.1 hb
      rfl
    · obtain ⟨m, a', n', c', S', e1, e3, e4⟩ := hz
      refine ⟨.os H.length a' n' 0 0 1 m.length c', _, e3.symm, e4, ?_, hk m a' n' c' S' e1⟩
      intro b hb
      cases List.mem_singleton.1 hb
      rfl
  · exact hk.elim
end Go.Proofs.Ytjnehpljhnlbfaa
