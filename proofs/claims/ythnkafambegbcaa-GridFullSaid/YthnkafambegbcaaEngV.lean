import Derived.Test.YthnkafambegbcaaEngK
set_option linter.unusedSimpArgs false
set_option linter.unusedVariables false
namespace Go.Eng
open Go Go.Sp
def mixCol (L : Nat) (b : Bool) : Col → Col → Col
  | .ints k f, .ints _ g => .ints k fun i => if i < L then f i else bif b then f i else g i
  | .strs f, .strs g => .strs fun i => if i < L then f i else bif b then f i else g i
  | .bools f, .bools g => .bools fun i => if i < L then f i else bif b then f i else g i
  | .slcs f, .slcs g => .slcs fun i => if i < L then f i else bif b then f i else g i
  | .any f, .any g => .any fun i => if i < L then f i else bif b then f i else g i
  | x, _ => x
def mixOk1 : Col → Col → Bool
  | .ints k _, .ints k' _ => decide (k = k')
  | .strs _, .strs _ => true
  | .bools _, .bools _ => true
  | .slcs _, .slcs _ => true
  | .any _, .any _ => true
  | _, _ => false
theorem mixCol_at {L : Nat} {b : Bool} {x y : Col} (h : mixOk1 x y = true) (i : Nat) : (mixCol L b x y).at i = if i < L then x.at i else bif b then x.at i else y.at i := by
  cases x <;> cases y <;> first | (simp [mixOk1] at h; done) | skip
  · have := of_decide_eq_true h
    subst this
    simp only [mixCol, Col.at]; cases b <;> (split <;> rfl)
  all_goals (cases b <;> by_cases hi : i < L <;> simp [mixCol, Col.at, hi])
def mixCols (L : Nat) (b : Bool) : List Col → List Col → List Col
  | x :: xs, y :: ys => mixCol L b x y :: mixCols L b xs ys
  | _, _ => []
def mixOk : List Col → List Col → Bool
  | [], [] => true
  | x :: xs, y :: ys => match mixOk1 x y with | true => mixOk xs ys | false => false
  | _, _ => false
theorem mixCols_row {L : Nat} {b : Bool} : ∀ {xs ys : List Col}, mixOk xs ys = true → (mixCols L b xs ys).length = xs.length ∧ ∀ i, rowOf (mixCols L b xs ys) i = if i < L then rowOf xs i else bif b then rowOf xs i else rowOf ys i
  | [], [], _ => ⟨rfl, fun i => by simp [mixCols, rowOf]⟩
  | x :: xs, y :: ys, h => by
    simp only [mixOk] at h
    split at h
    · rename_i h1
      obtain ⟨e1, e2⟩ := mixCols_row (L := L) (b := b) h
      refine ⟨by simp [mixCols, e1], fun i => ?_⟩
      simp only [mixCols, rowOf, mixCol_at h1 i, e2 i]
      cases b <;> (split <;> rfl)
    · exact absurd h (by simp)
  | [], _ :: _, h => by simp [mixOk] at h
  | _ :: _, [], h => by simp [mixOk] at h
theorem HeapOk.put {w0 : World} {fp H1 H : HH} {w : World} (h : HeapOk w0 fp H1 w) {id j : Nat} {b' b'' : Blk} (hj : H1[j]? = some b') (hi : ∀ i d, i ≠ id → H[i]? = some d → H1[i]? = some d ∧ i ≠ j) (hn : b'.nums = b''.nums) (ho : b'.own = true) (hc : b'.c.holds w b'.num → b''.c.holds w b''.num) : HeapOk w0 fp (H.set id b'') w := by
  refine ⟨⟨fun i d hd => ?_, fun i k d e hdd hee hik => ?_⟩, h.fr, fun i d hd => ?_⟩
  · rcases List.set_get hd with ⟨hne, hd⟩ | ⟨_, rfl, _⟩
    · exact h.hp.all i d (hi i d hne hd).1
    · exact hc (h.hp.all j b' hj)
  · rcases List.set_get hdd with ⟨hne, hd⟩ | ⟨hid, hd, _⟩ <;> rcases List.set_get hee with ⟨hne2, he⟩ | ⟨hid2, he, _⟩
    · exact h.hp.apart i k d e (hi i d hne hd).1 (hi k e hne2 he).1 hik
    · rw [he, ← hn]; exact h.hp.apart i j d b' (hi i d hne hd).1 hj (hi i d hne hd).2
    · rw [hd, ← hn]; exact h.hp.apart j k b' e hj (hi k e hne2 he).1 (fun x => (hi k e hne2 he).2 x.symm)
    · omega
  · rcases List.set_get hd with ⟨hne, hd⟩ | ⟨_, rfl, _⟩
    · exact h.src i d (hi i d hne hd).1
    · rw [← hn]
      intro k hk
      rcases h.src j b' hj k hk with ⟨m, d, hm, hd, hdo⟩ | hd
      · exact .inl ⟨m, d, hm, hd, fun _ => hdo ho⟩
      · exact .inr hd
theorem srcK_mono {tab : Tab} {H : HH} {sz : Nat} {tx : TypeId} {x : AV} {K1 K2 : Nat → List Col → Prop} (h : srcK tab H sz tx x K1) (hk : ∀ k new, K1 k new → K2 k new) : srcK tab H sz tx x K2 := by
  unfold srcK at h ⊢
  split at h
  · have g := ck_spec h; clear h; obtain ⟨h1, h⟩ := g
    simp only [h1, ck, br_true]
    split at h
    · have g := ck_spec h; clear h; obtain ⟨h2, h3, h4, h5, h⟩ := g
      simp only [h2, br_true]
      exact ⟨h3, h4, h5, hk _ _ h⟩
    · have g := ck_spec h; clear h; obtain ⟨h2, h3, h⟩ := g
      simp only [h2, br_true]
      exact ⟨h3, hk _ _ h⟩
    · exact h.elim
  · exact hk _ _ h
  · have g := ck_spec h; clear h; obtain ⟨h1, h⟩ := g
    simp only [h1, ck, br_true]
    split at h
    · have g := ck_spec h; clear h; obtain ⟨h2, h3, h4, h5, h6, h⟩ := g
      simp only [h2, br_true]
      exact ⟨h3, h4, h5, h6, hk _ _ h⟩
    · exact h.elim
  · have g := ck_spec h; clear h; obtain ⟨h1, h⟩ := g
    simp only [h1, ck, br_true]
    split at h
    · have g := ck_spec h; clear h; obtain ⟨h2, h3, h4, h5, h6, h⟩ := g
      simp only [h2, br_true]
      exact ⟨h3, h4, h5, h6, hk _ _ h⟩
    · exact h.elim
  · have g := ck_spec h; clear h; obtain ⟨h1, h⟩ := g
    simp only [h1, ck, br_true]
    exact hk _ _ h
  · exact h.elim
def appendM (tab : Tab) (H : HH) (at_ : List TypeId) (args : List AV) (K : AV → HH → Prop) : Prop :=
  match at_, args with
  | [t, tx], [.sl id n 0 sz len cap, x] =>
    match tab.get t with
    | some ⟨_, _, _, .slice e, _⟩ =>
      (match tab.get e with
       | some ei => ck (Nat.beq sz ei.sz) <| srcK tab H ei.sz tx x fun k new =>
         match nth H id with
         | some ⟨m, .rows N cs ty, true⟩ => ck (Nat.beq cs.length sz) <| ck (Nat.beq e ty) <| n = m ∧ cap = N ∧ len ≤ N ∧
           (len + k ≤ 9223372036854775807 ∧ ((len + k) + (len + k) / 4 + 192) * ei.bytes ≤ 281474976710656) ∧
           br (Nat.beq k 0) (K (.sl id n 0 sz len cap) H)
             (match joinCols len k (shiftCols cs 0) new ei.zero.cells, putCols (0 + len) k cs new with
              | some js, some ps => ck (mixOk js ps) <| ∀ (b : Bool) (n' c' : Nat), len + k ≤ c' → K (.sl id n' 0 sz (len + k) c') (H.set id ⟨n', .rows c' (mixCols (len + k) b js ps) ty, true⟩)
              | _, _ => False)
         | _ => False
       | none => False)
    | _ => False
  | _, _ => False
def canMerge (H : HH) (vs : List AV) : Bool :=
  match vs with
  | [.sl id _ 0 _ _ _, _] => (match nth H id with | some ⟨_, .rows _ _ _, true⟩ => true | _ => false)
  | _ => false
theorem appendM_sound {P : Program} {tab : Tab} (ht : TabOk P tab) {w0 : World} {fp H : HH} {w : World} (hh : HeapOk w0 fp H w) {at_ : Array TypeId} {args : List AV} {K : AV → HH → Prop} (h : appendM tab H at_.toList args K) (ty : TypeId) :
    ∃ v H' w', K v H' ∧ HeapOk w0 fp H' w' ∧ (Builtin.append_ at_ ty (denL args).toArray).run P w = .ok v.den w' := by
  have key : appendK tab H at_.toList args fun v H' => ∃ v'' H'', v''.den = v.den ∧ K v'' H'' ∧ ∀ w', HeapOk w0 fp H' w' → HeapOk w0 fp H'' w' := by
    unfold appendM at h
    unfold appendK
    split at h
    · rename_i t tx id n sz len cap x hat
      rw [hat]
      simp only []
      split at h
      · rename_i e _ htt
        simp only [htt]
        split at h
        · rename_i ei hei
          have g := ck_spec h; clear h; obtain ⟨hsz, h⟩ := g
          simp only [hei]
          simp only [ck, hsz]
          refine srcK_mono h (fun k new g => ?_)
          clear h
          have h := g
          clear g
          try dsimp only at h
          split at h
          · rename_i m N cs ty hb
            have g := ck_spec h; clear h; obtain ⟨hcs, h⟩ := g
            have g := ck_spec h; clear h; obtain ⟨hte, rfl, rfl, hl, hroom, h⟩ := g
            obtain rfl := Nat.eq_of_beq_eq_true hte
            simp only [hb, hcs]
            refine ⟨trivial, by omega, ?_⟩
            have hbi : H[id]? = some ⟨n, .rows cap cs e, true⟩ := by rw [← nth_eq]; exact hb
            have hid : id < H.length := (List.getElem?_eq_some_iff.1 hbi).1
            cases hk : Nat.beq k 0
            · rw [hk, br_false] at h
              split at h
              · rename_i js ps hjs hps
                have g := ck_spec h; clear h; obtain ⟨hok, h⟩ := g
                obtain ⟨j1, j2, j3, j4⟩ := joinCols_row hjs
                obtain ⟨p1, p2, p3⟩ := putCols_row hps
                refine br_intro (fun hle => ?_) (fun hle => ?_)
                · have hle := Nat.le_of_ble_eq_true hle
                  rw [br_false]
                  refine ⟨by omega, ?_⟩
                  rw [hps]
                  refine ⟨.sl id n 0 sz (len + k) cap, H.set id ⟨n, .rows cap (mixCols (len + k) false js ps) e, true⟩, rfl, h false n cap hle, fun w' hw => ?_⟩
                  obtain ⟨m1, m2⟩ := mixCols_row (L := len + k) (b := false) hok
                  refine HeapOk.put (H := H) (b'' := ⟨n, .rows cap (mixCols (len + k) false js ps) e, true⟩) hw (id := id) (j := id) (b' := ⟨n, .rows cap ps e, true⟩) (by rw [List.getElem?_set]; simp [hid]) (fun i d hne hd => ⟨by rw [List.getElem?_set]; simp [Ne.symm hne, hd], hne⟩) rfl rfl ?_
                  rintro ⟨c, hc, hcl, hcc⟩
                  have hlen : (mixCols (len + k) false js ps).length = ps.length := by rw [m1, j1, p1, ← j2]; simp
                  refine ⟨c, hc, by rw [hlen]; exact hcl, fun i hi => ?_⟩
                  have := hcc i hi
                  rw [hlen, m2 i]
                  split
                  · rename_i hi2
                    have e : rowOf js i = rowOf ps i := by
                      rw [j4 i, p3 i]
                      split
                      · rename_i h1; rw [if_neg (by omega), shiftCols_row]; simp
                      · rename_i h1; rw [if_pos ⟨by omega, by omega⟩]; simp
                    rw [e]; exact this
                  · exact this
                · unfold growK
                  refine ⟨hroom, ?_⟩
                  rw [hjs]
                  intro m c hc
                  refine ⟨.sl id m 0 sz (len + k) c, H.set id ⟨m, .rows c (mixCols (len + k) true js ps) e, true⟩, ?_, h true m c hc, fun w' hw => ?_⟩
                  · have := Nat.eq_of_beq_eq_true hsz; subst this; rfl
                  · obtain ⟨m1, m2⟩ := mixCols_row (L := len + k) (b := true) hok
                    refine hw.put (id := id) (j := H.length) (b' := ⟨m, .rows c js e, true⟩) (by simp) (fun i d hne hd => ⟨by rw [List.getElem?_append_left (List.getElem?_eq_some_iff.1 hd).1]; exact hd, fun h => by have := (List.getElem?_eq_some_iff.1 hd).1; omega⟩) rfl rfl ?_
                    rintro ⟨c', hc', hcl, hcc⟩
                    refine ⟨c', hc', by rw [m1]; exact hcl, fun i hi => ?_⟩
                    have := hcc i hi
                    rw [m1, m2 i]
                    simp only [cond_true, ite_self]
                    exact this
              · exact h.elim
            · rw [hk, br_true] at h
              have hk0 := Nat.eq_of_beq_eq_true hk
              refine br_intro (fun _ => ?_) (fun hle => ?_)
              · rw [br_true]
                exact ⟨_, _, rfl, h, fun _ hw => hw⟩
              · rw [Nat.ble_eq_true_of_le (by omega)] at hle; cases hle
          · exact h.elim
        · exact h.elim
      · exact h.elim
    · exact h.elim
  obtain ⟨v, H', w', ⟨v'', H'', e, hk, hw⟩, h2, h3⟩ := appendK_sound ht hh key ty
  exact ⟨v'', H'', w', hk, hw w' h2, by rw [e]; exact h3⟩
end Go.Eng
