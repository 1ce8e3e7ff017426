import Derived.Test.YtjnehpljhnlbfaaT12
namespace Go.Eng
open Go Go.Sp
def weakH (Y : Handler) : Handler := fun rs args H K => ∃ K0 : HK, Y rs args H K0 ∧ ∀ o H', K0 o H' → ∃ (b : Bool) (H'' : HH), o = .ret (.v (.bool b)) ∧ LeH H' H'' ∧ K (.ret (.v (.bool b))) H''
end Go.Eng
namespace Go.Op
open Go Go.Eng Go.Sp Go.Proofs.Ytjnehpljhnlbfaa
def knA (i : Nat) : PT → AV
  | .leaf => .v (.pointer none)
  | .node n id q hi la l r => .kp i n 0 [.v (.int .i64 id), .v (.int .i64 q.t), .v (.int .i64 q.l), .v (.int .i64 q.b), .v (.int .i64 q.r), knA i l, knA i r, .v (.int .i64 hi), .v (.int .i64 la)]
end Go.Op
namespace Go.Sp
open Go Go.Eng Go.Op Go.Proofs.Ytjnehpljhnlbfaa
def PT.under (s : PT) : PT → Prop
  | .leaf => s = .leaf
  | .node n id q hi la l r => s = .node n id q hi la l r ∨ s.under l ∨ s.under r
structure underO (s T : PT) : Prop where
  h : s.under T
abbrev knP (i n : Nat) (id : Int) (q : RC) (hi la : Int) (l r : PT) : AV := .kp i n 0 [.v (.int .i64 id), .v (.int .i64 q.t), .v (.int .i64 q.l), .v (.int .i64 q.b), .v (.int .i64 q.r), knA i l, knA i r, .v (.int .i64 hi), .v (.int .i64 la)]
abbrev knC (i : Nat) (id : Int) (q : RC) (hi la : Int) (l r : PT) : List AV := [.v (.int .i64 id), .v (.int .i64 q.t), .v (.int .i64 q.l), .v (.int .i64 q.b), .v (.int .i64 q.r), knA i l, knA i r, .v (.int .i64 hi), .v (.int .i64 la)]
theorem knA_den (i : Nat) (t : PT) : (knA i t).den = .pointer t.root := by cases t <;> rfl
structure isK (x : AV) (i : Nat) (t : PT) : Prop where
  h : x = knA i t
structure liesT (H : HH) (i : Nat) (T : PT) : Prop where
  h : ∃ m S o, nth H i = some ⟨m, packC treeC T S, o⟩
def rowsK (Y : Handler) (rs : RS) (i : Nat) (T : PT) (top bot : Int) (caps : List AV) : PT → HH → (Bool → HH → Prop) → Prop
  | .leaf, H, K => liesT H i T ∧ K true H
  | .node n id q hi la l r, H, K => liesT H i T ∧
    (la < top → K true H) ∧
    (¬ la < top → rowsK Y rs i T top bot caps l H fun b H1 => liesT H1 i T ∧
      (b = false → K false H1) ∧
      (b = true → (q.t > bot → K true H1) ∧
        (¬ q.t > bot → (q.b ≥ top → weakH Y rs ([knP i n id q hi la l r] ++ caps) H1 fun o H2 => liesT H2 i T ∧ ∃ c, o = .ret (.v (.bool c)) ∧ (c = false → K false H2) ∧ (c = true → rowsK Y rs i T top bot caps r H2 K)) ∧
          (¬ q.b ≥ top → rowsK Y rs i T top bot caps r H1 K))))
structure rowsO (Y : Handler) (rs : RS) (i : Nat) (T : PT) (top bot : Int) (caps : List AV) (t : PT) (H : HH) (K : Bool → HH → Prop) : Prop where
  h : rowsK Y rs i T top bot caps t H K
end Go.Sp
namespace Go.Eng
open Go Go.Sp Go.Op Go.Proofs.Ytjnehpljhnlbfaa
def btK : Handler := fun _ args H K =>
  match args with
  | [x] => ∃ (i : Nat) (T t : PT), isK x i t ∧ liesT H i T ∧ underO t T ∧ K (.ret (.v (.int .i64 t.bt))) H
  | _ => False
def rowsH (Y : Handler) (m : Nat) : Handler := fun rs args H K =>
  match args with
  | [x, .v (.int .i64 top), .v (.int .i64 bot), .fn (.func 53) [] caps] => ∃ (i : Nat) (T t : PT) (Q : Bool → HH → Prop), isK x i t ∧ underO t T ∧ t.sz < m ∧ 1 ≤ top ∧ rowsO Y rs i T top bot caps t H Q ∧ ∀ b H', Q b H' → K (.ret (.v (.bool b))) H'
  | _ => False
end Go.Eng
namespace Go.Proofs.Ytjnehpljhnlbfaa
open Go Go.Eng Go.Sp Go.Op
set_option linter.unusedVariables false
set_option linter.unusedSimpArgs false
def tbRo (Y : Handler) (m : Nat) : Tbl := (52, .gen (rowsH Y m)) :: (68, .gen btK) :: (53, .gen (weakH Y)) :: []
set_option maxRecDepth 100000 in
theorem ro1_ex (Y : Handler) (m i n : Nat) (id : Int) (q : RC) (hi la : Int) (l r : PT) (top bot : Int) (caps : List AV) (rs_ : RS) (H_ : HH) (K_ : HK) (h : (∃ (i_1 : Nat), ∃ (T : PT), ∃ (t : PT), isK (knP i n id q hi la l r) i_1 t ∧ liesT H_ i_1 T ∧ underO t T ∧ br (decide (t.bt < top)) (K_ (Out.ret (resV [bT])) H_) ((∃ (b : Blk), nth H_ i = some b ∧ ∀ (w : World), Cont.holds w b.num b.c → ∃ (ty : TypeId), ∃ (fz : Nat × Nat), w.heap[n]? = some (Obj.cells (denL [i6 id, i6 q.t, i6 q.l, i6 q.b, i6 q.r, knA i l, knA i r, i6 hi, i6 la]).toArray ty fz)) ∧ ∃ (i_2 : Nat), ∃ (T : PT), ∃ (t : PT), ∃ (Q : Bool → HH → Prop), isK (knA i l) i_2 t ∧ underO t T ∧ t.sz < m ∧ (1 : Int) ≤ top ∧ rowsO Y rs_ i_2 T top bot caps t H_ Q ∧ ∀ (b8 : Bool) (H' : HH), Q b8 H' → br (!b8) (K_ (Out.ret (resV [bF])) H') ((∃ (b : Blk), nth H' i = some b ∧ ∀ (w : World), Cont.holds w b.num b.c → ∃ (ty : TypeId), ∃ (fz : Nat × Nat), w.heap[n]? = some (Obj.cells (denL [i6 id, i6 q.t, i6 q.l, i6 q.b, i6 q.r, knA i l, knA i r, i6 hi, i6 la]).toArray ty fz)) ∧ br (decide (q.t > bot)) (K_ (Out.ret (resV [bT])) H') ((∃ (b : Blk), nth H' i = some b ∧ ∀ (w : World), Cont.holds w b.num b.c → ∃ (ty : TypeId), ∃ (fz : Nat × Nat), w.heap[n]? = some (Obj.cells (denL [i6 id, i6 q.t, i6 q.l, i6 q.b, i6 q.r, knA i l, knA i r, i6 hi, i6 la]).toArray ty fz)) ∧ br (decide (q.b ≥ top)) (∃ (K0 : HK), Y rs_ (AV.kp i n 0 [i6 id, i6 q.t, i6 q.l, i6 q.b, i6 q.r, knA i l, knA i r, i6 hi, i6 la] :: caps) H' K0 ∧ ∀ (o : Out) (H' : HH), K0 o H' → ∃ (b : Bool), ∃ (H'' : HH), o = Out.ret (AV.v (Value.bool b)) ∧ LeH H' H'' ∧ br (!b) (K_ (Out.ret (resV [bF])) H'') ((∃ (b : Blk), nth H'' i = some b
 ∧ ∀ (w : World), Cont.holds w b.num b.c → ∃ (ty : TypeId), ∃ (fz : Nat × Nat), w.heap[n]? = some (Obj.cells (denL [i6 id, i6 q.t, i6 q.l, i6 q.b, i6 q.r, knA i l, knA i r, i6 hi, i6 la]).toArray ty fz)) ∧ ∃ (i_3 : Nat), ∃ (T : PT), ∃ (t : PT), ∃ (Q : Bool → HH → Prop), isK (knA i r) i_3 t ∧ underO t T ∧ t.sz < m ∧ (1 : Int) ≤ top ∧ rowsO Y rs_ i_3 T top bot caps t H'' Q ∧ ∀ (b21 : Bool) (H' : HH), Q b21 H' → K_ (Out.ret (resV [AV.v (Value.bool b21)])) H')) ((∃ (b : Blk), nth H' i = some b ∧ ∀ (w : World), Cont.holds w b.num b.c → ∃ (ty : TypeId), ∃ (fz : Nat × Nat), w.heap[n]? = some (Obj.cells (denL [i6 id, i6 q.t, i6 q.l, i6 q.b, i6 q.r, knA i l, knA i r, i6 hi, i6 la]).toArray ty fz)) ∧ ∃ (i_3 : Nat), ∃ (T : PT), ∃ (t : PT), ∃ (Q : Bool → HH → Prop), isK (knA i r) i_3 t ∧ underO t T ∧ t.sz < m ∧ (1 : Int) ≤ top ∧ rowsO Y rs_ i_3 T top bot caps t H' Q ∧ ∀ (b15 : Bool) (H' : HH), Q b15 H' → K_ (Out.ret (resV [AV.v (Value.bool b15)])) H')))))) : inlH tab (tbRo Y m) noinv 2 Try.f52 4 rs_ [knP i n id q hi la l r, .v (.int .i64 top), .v (.int .i64 bot), .fn (.func 53) [] caps] H_ K_ :=
  (@Eq.mpr (execN tab (tbRo Y m) noinv 2 Try.f52.ntmps rs_ none 0 (body Try.f52) (argsT [knP i n id q hi la l r, .v (.int .i64 top), .v (.int .i64 bot), .fn (.func 53) [] caps] 0) H_ (post Try.f52 tab K_)) _ (by kernel_rfl) h)
set_option maxRecDepth 100000 in
theorem ro0_ex (Y : Handler) (m : Nat) (top bot : Int) (caps : List AV) (rs_ : RS) (H_ : HH) (K_ : HK) (h : (∃ (i : Nat), ∃ (T : PT), ∃ (t : PT), isK (AV.v (Value.pointer none)) i t ∧ liesT H_ i T ∧ underO t T ∧ br (decide (t.bt < top)) (K_ (Out.ret (resV [AV.v (Value.bool true)])) H_) False)) : inlH tab (tbRo Y m) noinv 2 Try.f52 4 rs_ [.v (.pointer none), .v (.int .i64 top), .v (.int .i64 bot), .fn (.func 53) [] caps] H_ K_ :=
  (@Eq.mpr (execN tab (tbRo Y m) noinv 2 Try.f52.ntmps rs_ none 0 (body Try.f52) (argsT [.v (.pointer none), .v (.int .i64 top), .v (.int .i64 bot), .fn (.func 53) [] caps] 0) H_ (post Try.f52 tab K_)) _ (by kernel_rfl) h)
end Go.Proofs.Ytjnehpljhnlbfaa
namespace Go.Eng
open Go Go.Sp Go.Op Go.Proofs.Ytjnehpljhnlbfaa
theorem under_refl : ∀ T : PT, T.under T
  | .leaf => rfl
  | .node .. => .inl rfl
theorem under_sides {n : Nat} {id : Int} {q : RC} {hi la : Int} {l r : PT} : ∀ {T : PT}, (PT.node n id q hi la l r).under T → l.under T ∧ r.under T
  | .leaf, h => by cases h
  | .node n' id' q' hi' la' l' r', h => by
    rcases h with h | h | h
    · cases h
      exact ⟨.inr (.inl (under_refl _)), .inr (.inr (under_refl _))⟩
    · exact ⟨.inr (.inl (under_sides h).1), .inr (.inl (under_sides h).2)⟩
    · exact ⟨.inr (.inr (under_sides h).1), .inr (.inr (under_sides h).2)⟩
theorem under_mem {n : Nat} {id : Int} {q : RC} {hi la : Int} {l r : PT} : ∀ {T : PT}, (PT.node n id q hi la l r).under T → ndB n id q (.v (.pointer l.root)) (.v (.pointer r.root)) hi la ∈ treeH T
  | .leaf, h => by cases h
  | .node n' id' q' hi' la' l' r', h => by
    rcases h with h | h | h
    · cases h
      exact List.mem_cons_self
    · exact List.mem_cons_of_mem _ (List.mem_append_left _ (under_mem h))
    · exact List.mem_cons_of_mem _ (List.mem_append_right _ (under_mem h))
theorem kp_of {H : HH} {i n : Nat} {id : Int} {q : RC} {hi la : Int} {l r T : PT} (h : liesT H i T) (hu : (PT.node n id q hi la l r).under T) : kpOk H i n (knC i id q hi la l r) := by
  obtain ⟨m, S, o, hb⟩ := h.h
  refine ⟨_, hb, fun w hw => ?_⟩
  obtain ⟨H0, g1, g2, g3, g4⟩ := pack_open (C := treeC) (x := T) hw
  have g1 : H0 = treeH T := g1
  subst g1
  obtain ⟨j, hj⟩ := List.getElem?_of_mem (under_mem hu)
  obtain ⟨fz, h1, _⟩ := g4.all j _ hj
  refine ⟨81, fz, ?_⟩
  have e : denL (knC i id q hi la l r) = denL [.v (.int .i64 id), .v (.int .i64 q.t), .v (.int .i64 q.l), .v (.int .i64 q.b), .v (.int .i64 q.r), .v (.pointer l.root), .v (.pointer r.root), .v (.int .i64 hi), .v (.int .i64 la)] := by
    simp only [denL, knA_den, AV.den]
  rw [e]
  exact h1
theorem HOk.weak {P : Program} {f : FuncId} {Y : Handler} (ok : HOk P f Y) : HOk P f (weakH Y) := by
  refine ⟨ok.enters, fun rs hrs args H K w hw hk => ?_⟩
  obtain ⟨K0, h1, h2⟩ := hk
  refine (ok.calls rs hrs args H K0 w hw h1).mono fun e w' hq => ?_
  cases e with
  | returned x =>
    obtain ⟨v, H', rfl, hv, hx⟩ := hq
    obtain ⟨b, H'', e1, e2, e3⟩ := h2 _ _ hv
    cases e1
    exact ⟨_, H'', rfl, e3, hx.le e2⟩
  | panicked ch =>
    obtain ⟨v, H', rfl, hv, hx⟩ := hq
    obtain ⟨b, H'', e1, _⟩ := h2 _ _ hv
    cases e1
  | outgrown => exact hq.elim
theorem HOk.imp {P : Program} {f : FuncId} {h h' : Handler} (ok : HOk P f h) (hi : ∀ rs args H K, h' rs args H K → h rs args H K) : HOk P f h' :=
  ⟨ok.enters, fun rs hrs args H K w hw hk => ok.calls rs hrs args H K w hw (hi _ _ _ _ hk)⟩
end Go.Eng
namespace Go.Proofs.Ytjnehpljhnlbfaa
open Go Go.Eng Go.Sp Go.Op
set_option linter.unusedVariables false
set_option linter.unusedSimpArgs false
theorem bt_lc (i : Nat) (T t : PT) (H : HH) (hl : liesT H i T) (hu : t.under T) (w : World) (hw : HoldsH H w) : ∃ (Hin : HH) (args' : List AV), HoldsH Hin w ∧ ownNums Hin = [] ∧ denL args' = denL [knA i t] ∧ LC Try.prog 68 args' Hin (fun r _ => r.den = (AV.v (.int .i64 t.bt)).den) := by
  cases t with
  | leaf => exact ⟨[], [.v (.pointer none)], holds_nil w, rfl, rfl, bt0_vc (by first | rfl | trivial | exact ⟨rfl⟩)⟩
  | node n id q hi la l r =>
    obtain ⟨m, S, o, hb⟩ := hl.h
    rw [nth_eq] at hb
    obtain ⟨H0, g1, g2, g3, g4⟩ := pack_open (C := treeC) (x := T) (by have g := hw.all i _ hb; exact g)
    have g1 : H0 = treeH T := g1
    subst g1
    obtain ⟨j, hj⟩ := List.getElem?_of_mem (under_mem hu)
    exact ⟨[⟨n, .cells [.v (.int .i64 id), .v (.int .i64 q.t), .v (.int .i64 q.l), .v (.int .i64 q.b), .v (.int .i64 q.r), .v (.pointer l.root), .v (.pointer r.root), .v (.int .i64 hi), .v (.int .i64 la)] 81, false⟩], [.ptr 0 n 0], holds_one (by have g := g4.all j _ hj; exact g), rfl, rfl, bt1_vc n _ _ _ _ _ _ _ _ la (by first | rfl | trivial | exact ⟨rfl, rfl⟩)⟩
theorem btk_ok : HOk Try.prog 68 btK := HOk.of_look (enters_of (c := body Try.f68) Try.func68 rfl (by kernel_rfl)) fun rs args H K hk => by
  unfold btK at hk
  split at hk
  · rename_i x
    obtain ⟨i, T, t, ⟨rfl⟩, hl, ⟨hu⟩, hk⟩ := hk
    exact ⟨_, hk, fun w hw => bt_lc i T t H hl hu w hw⟩
  · exact hk.elim
end Go.Proofs.Ytjnehpljhnlbfaa
namespace Go.Sp
open Go Go.Eng Go.Op Go.Proofs.Ytjnehpljhnlbfaa
def PT.vis (top bot : Int) : PT → List PT
  | .leaf => []
  | .node n id q hi la l r => if la < top then [] else l.vis top bot ++ (if q.t > bot then [] else (if q.b ≥ top then [.node n id q hi la l r] else []) ++ r.vis top bot)
end Go.Sp
namespace Go.Eng
open Go Go.Sp Go.Op Go.Proofs.Ytjnehpljhnlbfaa
theorem rows_inv {Y : Handler} {rs : RS} {i : Nat} {T : PT} {top bot : Int} {caps : List AV} {X : Type} (St : List PT → X → HH) (I : List PT → X → Prop)
    (hl : ∀ xs x, I xs x → liesT (St xs x) i T)
    (hy : ∀ xs x n id q hi la l r, I xs x → (PT.node n id q hi la l r).under T → (∃ ys, xs ++ PT.node n id q hi la l r :: ys = T.vis top bot) → ¬ q.t > bot → q.b ≥ top →
      Y rs ([knP i n id q hi la l r] ++ caps) (St xs x) fun o H' => match o with | .ret v => v = .v (.bool true) ∧ ∃ x', I (xs ++ [PT.node n id q hi la l r]) x' ∧ LeH H' (St (xs ++ [PT.node n id q hi la l r]) x') | .pan _ => False) :
    ∀ (t : PT), t.under T → ∀ (xs : List PT) (x : X) (Q : Bool → HH → Prop), I xs x → (∃ ys, xs ++ t.vis top bot ++ ys = T.vis top bot) → (∀ x', I (xs ++ t.vis top bot) x' → Q true (St (xs ++ t.vis top bot) x')) → rowsK Y rs i T top bot caps t (St xs x) Q
  | .leaf, _, xs, x, Q, hx, _, hq => ⟨hl xs x hx, by have := hq x; rw [PT.vis, List.append_nil] at this; exact this hx⟩
  | .node n id q hi la l r, hu, xs, x, Q, hx, hp, hq => by
    obtain ⟨u1, u2⟩ := under_sides hu
    refine ⟨hl xs x hx, fun h => ?_, fun h => ?_⟩
    · have e : (PT.node n id q hi la l r).vis top bot = [] := by rw [PT.vis, if_pos h]
      rw [e, List.append_nil] at hq
      exact hq x hx
    · have e : (PT.node n id q hi la l r).vis top bot = l.vis top bot ++ (if q.t > bot then [] else (if q.b ≥ top then [.node n id q hi la l r] else []) ++ r.vis top bot) := by rw [PT.vis, if_neg h]
      obtain ⟨ys, hp⟩ := hp
      rw [e] at hp hq
      refine rows_inv St I hl hy l u1 xs x _ hx ⟨_, by rw [List.append_assoc xs, List.append_assoc] at hp; rw [List.append_assoc]; exact hp⟩ fun x1 h1 => ⟨hl _ x1 h1, fun hb => (by cases hb), fun _ => ⟨fun h2 => ?_, fun h2 => ⟨fun h3 => ?_, fun h3 => ?_⟩⟩⟩
      · rw [if_pos h2, List.append_nil] at hq
        exact hq x1 h1
      · rw [if_neg h2, if_pos h3] at hp hq
        refine ⟨_, hy _ x1 n id q hi la l r h1 hu ⟨r.vis top bot ++ ys, by simpa using hp⟩ h2 h3, fun o H' ho => ?_⟩
        cases o with
        | pan v => exact ho.elim
        | ret v =>
          obtain ⟨rfl, x2, h4, h5⟩ := ho
          refine ⟨true, _, rfl, h5, hl _ x2 h4, true, rfl, fun hb => (by cases hb), fun _ => ?_⟩
          refine rows_inv St I hl hy r u2 _ x2 Q h4 ⟨ys, by simpa using hp⟩ fun x3 h6 => ?_
          have e2 : xs ++ l.vis top bot ++ [PT.node n id q hi la l r] ++ r.vis top bot = xs ++ (l.vis top bot ++ ([PT.node n id q hi la l r] ++ r.vis top bot)) := by simp
          rw [e2] at h6 ⊢
          exact hq x3 h6
      · rw [if_neg h2, if_neg h3, List.nil_append] at hp hq
        refine rows_inv St I hl hy r u2 _ x1 Q h1 ⟨ys, by simpa using hp⟩ fun x3 h6 => ?_
        rw [List.append_assoc] at h6 ⊢
        exact hq x3 h6
def rowsT (Y : Handler) (i : Nat) (T : PT) (X : Type) (St : HH → List PT → X → HH) (I : List PT → X → Prop) : Handler := fun rs args H K =>
  match args with
  | [x, .v (.int .i64 top), .v (.int .i64 bot), .fn (.func 53) [] caps] => isK x i T ∧ 1 ≤ top ∧ T.sz < 100000 ∧
      (∃ x0, I [] x0 ∧ LeH H (St H [] x0)) ∧ (∀ xs x, I xs x → liesT (St H xs x) i T) ∧
      (∀ xs x n id q hi la l r, I xs x → underO (PT.node n id q hi la l r) T → (∃ ys, xs ++ PT.node n id q hi la l r :: ys = T.vis top bot) → ¬ q.t > bot → q.b ≥ top →
        Y rs ([.kp i n 0 [.v (.int .i64 id), .v (.int .i64 q.t), .v (.int .i64 q.l), .v (.int .i64 q.b), .v (.int .i64 q.r), knA i l, knA i r, .v (.int .i64 hi), .v (.int .i64 la)]] ++ caps) (St H xs x) fun o H' =>
          match o with | .ret v => v = .v (.bool true) ∧ ∃ x', I (xs ++ [PT.node n id q hi la l r]) x' ∧ LeH H' (St H (xs ++ [PT.node n id q hi la l r]) x') | .pan _ => False) ∧
      (∀ x, I (T.vis top bot) x → K (.ret (.v (.bool true))) (St H (T.vis top bot) x))
  | _ => False
end Go.Eng
namespace Go.Proofs.Ytjnehpljhnlbfaa
open Go Go.Eng Go.Sp Go.Op
set_option linter.unusedVariables false
set_option linter.unusedSimpArgs false
theorem rows_enters : Enters Try.prog 52 := enters_of (c := body Try.f52) Try.func52 rfl (by kernel_rfl)
theorem tbRo_ok {Y : Handler} (hY : HOk Try.prog 53 Y) {m : Nat} (h : HOk Try.prog 52 (rowsH Y m)) : TblOk Try.prog (tbRo Y m) := ⟨h, btk_ok, hY.weak, trivial⟩
set_option maxRecDepth 100000 in
theorem rows_body {Y : Handler} {m : Nat} (h : TblOk Try.prog (tbRo Y m)) : HOk Try.prog 52 (inlH tab (tbRo Y m) noinv 2 Try.f52 4) :=
  inl_ok (tbl := tbRo Y m) tab_ok h mixed noinv 2 _ 4 Try.func52 rfl Try.ntmps52 (by decide) (by kernel_rfl) (Nat.le_of_ble_eq_true rfl)
theorem rowsR_ok {Y : Handler} (hY : HOk Try.prog 53 Y) : ∀ m : Nat, HOk Try.prog 52 (rowsH Y m)
  | 0 => ⟨rows_enters, fun rs _ args H K w hw hk => by
    unfold rowsH at hk
    split at hk
    · obtain ⟨i, T, t, Q, _, _, h, _⟩ := hk
      exact absurd h (Nat.not_lt_zero _)
    · exact hk.elim⟩
  | m + 1 => (rows_body (tbRo_ok hY (rowsR_ok hY m))).imp fun rs args H K hk => by
    unfold rowsH at hk
    split at hk
    · rename_i x top bot caps
      obtain ⟨i, T, t, Q, ⟨rfl⟩, ⟨hu⟩, hs, ht, ⟨hr⟩, hk⟩ := hk
      cases t with
      | leaf =>
        refine ro0_ex Y m top bot caps rs H K ⟨i, T, .leaf, ⟨rfl⟩, hr.1, ⟨hu⟩, br_intro (fun _ => hk true H hr.2) (fun h => ?_)⟩
        have h := of_decide_eq_false h
        have : PT.bt .leaf = 0 := rfl
        omega
      | node n id q hi la l r =>
        obtain ⟨u1, u2⟩ := under_sides hu
        have hs : l.sz + r.sz + 1 < m + 1 := hs
        obtain ⟨k1, k2, k3⟩ := hr
        refine ro1_ex Y m i n id q hi la l r top bot caps rs H K ⟨i, T, .node n id q hi la l r, ⟨rfl⟩, k1, ⟨hu⟩, br_intro (fun h => hk true H (k2 (of_decide_eq_true h))) (fun h => ?_)⟩
        refine ⟨kp_of k1 hu, i, T, l, _, ⟨rfl⟩, ⟨u1⟩, by omega, ht, ⟨k3 (of_decide_eq_false h)⟩, fun b H1 hb => ?_⟩
        obtain ⟨g1, g2, g3⟩ := hb
        refine br_intro (fun hb => ?_) (fun hb => ?_)
        · cases b with
          | true => cases hb
          | false => exact hk false H1 (g2 rfl)
        · cases b with
          | false => cases hb
          | true =>
            obtain ⟨g4, g5⟩ := g3 rfl
            refine ⟨kp_of g1 hu, br_intro (fun h2 => hk true H1 (g4 (of_decide_eq_true h2))) (fun h2 => ?_)⟩
            obtain ⟨g6, g7⟩ := g5 (of_decide_eq_false h2)
            refine ⟨kp_of g1 hu, br_intro (fun h3 => ?_) (fun h3 => ?_)⟩
            · obtain ⟨K0, w1, w2⟩ := g6 (of_decide_eq_true h3)
              refine ⟨K0, w1, fun o H2 ho => ?_⟩
              obtain ⟨c, H3, e1, e2, j1, c', e3, j2, j3⟩ := w2 o H2 ho
              cases e3
              refine ⟨c, H3, e1, e2, br_intro (fun hc => ?_) (fun hc => ?_)⟩
              · cases c with
                | true => cases hc
                | false => exact hk false H3 (j2 rfl)
              · cases c with
                | false => cases hc
                | true => exact ⟨kp_of j1 hu, i, T, r, Q, ⟨rfl⟩, ⟨u2⟩, by omega, ht, ⟨j3 rfl⟩, hk⟩
            · exact ⟨kp_of g1 hu, i, T, r, Q, ⟨rfl⟩, ⟨u2⟩, by omega, ht, ⟨g7 (of_decide_eq_false h3)⟩, hk⟩
    · exact hk.elim
theorem rowsT_ok {Y : Handler} (hY : HOk Try.prog 53 Y) (i : Nat) (T : PT) (X : Type) (St : HH → List PT → X → HH) (I : List PT → X → Prop) : HOk Try.prog 52 (rowsT Y i T X St I) := by
  refine ⟨rows_enters, fun rs hrs args H K w hw hk => ?_⟩
  unfold rowsT at hk
  split at hk
  · rename_i x top bot caps
    obtain ⟨⟨rfl⟩, ht, hs, ⟨x0, h0, l0⟩, hl, hy, hk⟩ := hk
    have hr := rows_inv (Y := Y) (rs := rs) (i := i) (T := T) (top := top) (bot := bot) (caps := caps) (St H) I hl (fun xs x n id q hi la l r h1 h2 h3 h4 h5 => hy xs x n id q hi la l r h1 ⟨h2⟩ h3 h4 h5) T (under_refl T) [] x0 (fun b H' => K (.ret (.v (.bool b))) H') h0 ⟨[], by simp⟩ (fun x' h' => hk x' h')
    refine ((rowsR_ok hY 100000).calls rs hrs [knA i T, .v (.int .i64 top), .v (.int .i64 bot), .fn (.func 53) [] caps] (St H [] x0) K w (l0.holds w hw) ⟨i, T, T, _, ⟨rfl⟩, ⟨under_refl T⟩, hs, ht, ⟨hr⟩, fun b H' h => h⟩).mono fun e w' hq => ?_
    cases e with
    | returned x =>
      obtain ⟨v, H', rfl, hv, hx⟩ := hq
      exact ⟨v, H', rfl, hv, Ext.of_to (l0.to hw) hx⟩
    | panicked ch =>
      obtain ⟨v, H', rfl, hv, hx⟩ := hq
      exact ⟨v, H', rfl, hv, Ext.of_to (l0.to hw) hx⟩
    | outgrown => exact hq.elim
  · exact hk.elim
end Go.Proofs.Ytjnehpljhnlbfaa
