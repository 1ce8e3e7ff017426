/- Undo: the plain form's history: a thing comes, its marks in order, as handlers; handlers that say more. -/
import Derived.Test.YtkjnkepdhbpnbaaUH
namespace Go.Eng
open Go Go.Sp

/-- Other words for what a call makes. -/
theorem HOk.mono {P : Program} {f : FuncId} {h h' : Handler} (ok : HOk P f h) (hm : ∀ rs args H K, h' rs args H K → h rs args H fun o H' => ∃ (v v' : AV) (H'' : HH), o = .ret v ∧ v'.den = v.den ∧ K (.ret v') H'' ∧ LeH H' H'') : HOk P f h' := by
  refine ⟨ok.enters, fun rs hrs args H K w hw hk => (ok.calls rs hrs args H _ w hw (hm rs args H K hk)).mono fun e w' hq => ?_⟩
  cases e with
  | returned x =>
    obtain ⟨v, H', rfl, ⟨v1, v2, H2, e1, e2, e3, e4⟩, hx⟩ := hq
    cases e1
    exact ⟨v2, H2, e2.symm, e3, hx.le e4⟩
  | panicked ch =>
    obtain ⟨v, H', rfl, ⟨v1, v2, H2, e1, _⟩, hx⟩ := hq
    cases e1
  | outgrown => exact hq.elim

theorem dAt_P1 (M : List (ByteArray × Int)) (i : Nat) : (dAt M markD.z i).1 = atP1 M i := by
  unfold dAt atP1
  cases M[i]? <;> rfl
theorem dAt_P2 (M : List (ByteArray × Int)) (i : Nat) : (dAt M markD.z i).2 = atP2 M i := by
  unfold dAt atP2
  cases M[i]? <;> rfl
theorem atI_dAt (l : List Int) (i : Nat) : dAt l intD.z i = atI l i := rfl
theorem atS_dAt (l : List ByteArray) (i : Nat) : dAt l strD.z i = atS l i := rfl

/-- Marks as columns are marks as data, and back. -/
theorem marks_dl {n o : Nat} {M : List (ByteArray × Int)} {S : List Nat} {wr : Option (Nat × TypeId)} {own own' : Bool} (ho : own' = true → own = true) : LeB ⟨n, .lst o M.length [.strs (atP1 M), .ints .i64 (atP2 M)] S wr, own⟩ (rD markD n o M S own') :=
  LeB.dl_of_lst markD_ok ho rfl (Nat.le_refl _) fun i _ => by simp only [markD, rowOf, Col.at, ← dAt_P1, ← dAt_P2]
theorem dl_marks {n o : Nat} {M : List (ByteArray × Int)} {S : List Nat} {wr : Option (Nat × TypeId)} {foc : Option (Nat × List AV)} {own own' : Bool} (ho : own' = true → own = true) : LeB ⟨n, .dl (ByteArray × Int) markD o M S wr foc, own⟩ ⟨n, .lst o M.length [.strs (atP1 M), .ints .i64 (atP2 M)] S none, own'⟩ :=
  LeB.lst_of_dl ho rfl (Nat.le_refl _) fun i _ => by simp only [markD, rowOf, Col.at, ← dAt_P1, ← dAt_P2]
theorem ints_dl {n o : Nat} {l : List Int} {S : List Nat} {wr : Option (Nat × TypeId)} {own own' : Bool} (ho : own' = true → own = true) : LeB ⟨n, .lst o l.length [.ints .i64 (atI l)] S wr, own⟩ (rD intD n o l S own') :=
  LeB.dl_of_lst intD_ok ho rfl (Nat.le_refl _) fun i _ => rfl
theorem dl_ints {n o : Nat} {l : List Int} {S : List Nat} {wr : Option (Nat × TypeId)} {foc : Option (Nat × List AV)} {own own' : Bool} (ho : own' = true → own = true) : LeB ⟨n, .dl Int intD o l S wr foc, own⟩ ⟨n, .lst o l.length [.ints .i64 (atI l)] S none, own'⟩ :=
  LeB.lst_of_dl ho rfl (Nat.le_refl _) fun i _ => rfl
theorem dl_strs {n o : Nat} {l : List ByteArray} {S : List Nat} {wr : Option (Nat × TypeId)} {foc : Option (Nat × List AV)} {own own' : Bool} (ho : own' = true → own = true) : LeB ⟨n, .dl ByteArray strD o l S wr foc, own⟩ ⟨n, .lst o l.length [.strs (atS l)] S none, own'⟩ :=
  LeB.lst_of_dl ho rfl (Nat.le_refl _) fun i _ => rfl

/-- A thing comes. -/
def relP (x x' : RH) (v : Int) (low : Nat) : Prop := x'.most = x.most ∧ (low : Int) = max 0 ((x.D.length : Int) + 1 - x.most) ∧ x'.D = (x.D ++ [v]).drop low ∧ x'.U = []

def rpushH : Handler := fun _ args H K =>
  match lastR H 0 none, args with
  | some id, [.agg [.v (.int .i64 q), .v (.slice a1 l1 k1), .v (.slice a2 l2 k2), .os i b3 n3 o3 0 2 l3 c3], .v (.int .i64 v)] => ∃ (x : RH) (S : List Nat) (M : List (ByteArray × Int)) (S3 : List Nat) (w : Bool), nth H id = some (refB x S) ∧ x.v (.os i b3 n3 o3 0 2 l3 c3) = .agg [.v (.int .i64 q), .v (.slice a1 l1 k1), .v (.slice a2 l2 k2), .os i b3 n3 o3 0 2 l3 c3] ∧ nth H i = some ⟨n3, .lst o3 M.length [.strs (atP1 M), .ints .i64 (atP2 M)] S3 none, w⟩ ∧ l3 = M.length ∧ id ≠ i ∧ (M.length ≤ 1048576 ∧ x.D.length + x.U.length ≤ 1048576 ∧ inM M x ∧ 0 ≤ x.most ∧ x.most ≤ 256) ∧
      ∀ (x' : RH) (low : Nat) (S' : List Nat) (a : Option Addr) (n cap : Nat) (S4 : List Nat), relP x x' v low → K (.ret (x'.v (.os H.length a n 0 0 2 (stayL M (x.D.length : Int) (low : Int)).length cap))) (H.set id (refB x' S') ++ [rM n 0 (stayL M (x.D.length : Int) (low : Int)) S4])
  | _, _ => False

/-- All marks in order. -/
def rmarksH : Handler := fun _ args H K =>
  match args with
  | [.agg [.v (.int .i64 q), .v (.slice a1 l1 k1), .v (.slice a2 l2 k2), .os i b3 n3 o3 0 2 l3 c3]] => ∃ (M : List (ByteArray × Int)) (S3 : List Nat) (w : Bool), nth H i = some ⟨n3, .lst o3 M.length [.strs (atP1 M), .ints .i64 (atP2 M)] S3 none, w⟩ ∧ l3 = M.length ∧ M.length ≤ 1048576 ∧ (∀ x ∈ M, x.1.size ≤ 1048576) ∧
      ∀ (a : Option Addr) (n c : Nat) (S : List Nat), K (.ret (.os H.length a n 0 0 1 (namesL M).length c)) (H ++ [lS n (namesL M) S true])
  | _ => False

/-- To a mark. -/
def relO (s s' : HS) (nm : ByteArray) (mv : List Int) (code : Int) : Prop :=
  ((∀ (v : Int) (b : Nat), ((nm, v), b) ∉ s.es) ∧ s' = s ∧ mv = [] ∧ code = 8) ∨
  (∃ (v b : Nat), ((nm, (v : Int)), b) ∈ s.es ∧ v ≤ s.len ∧ s' = s.goTo v ∧ code = 0 ∧ ((v ≤ s.at_ ∧ mv.length = s.at_ - v ∧ ∀ j, j < s.at_ - v → atI mv j = s.g (s.at_ - 1 - j)) ∨ (s.at_ < v ∧ mv.length = v - s.at_ ∧ ∀ j, j < v - s.at_ → atI mv j = s.g (s.at_ + j))))

def toO : Handler := fun _ args H K =>
  match args with
  | [.ptr id n 0, .v (.string nm)] => ∃ (s : HS) (S : List Nat), n = s.hn ∧ nth H id = some (hH s S) ∧ s.ok ∧
    ∀ (s' : HS) (mv : List Int) (code : Int) (S' : List Nat) (a : Option Addr) (n1 c1 : Nat) (S1 : List Nat), relO s s' nm mv code → K (.ret (.tup [.os H.length a n1 0 0 1 mv.length c1, .v (.int .i64 code)])) (H.set id (hH s' S') ++ [lI n1 mv S1 true])
  | _ => False

end Go.Eng
namespace Go.Proofs.Ytkjnkepdhbpnbaa
open Go Go.Eng Go.Sp
set_option linter.unusedVariables false
set_option linter.unusedSimpArgs false

theorem rpu2_lc (x : RH) (S : List Nat) (v : Int) (b3 : Option Addr) (n3 o3 c3 : Nat) (M : List (ByteArray × Int)) (S3 : List Nat) (hM : M.length ≤ 1048576) (hD : x.D.length + x.U.length ≤ 1048576) (hin : inM M x) (hq : 0 ≤ x.most ∧ x.most ≤ 256) :
    LC Try.prog 32 [x.v (.os 1 b3 n3 o3 0 2 M.length c3), .v (.int .i64 v)] [refB x S, rMr n3 o3 M S3] (fun z H' => ∃ (x' : RH) (low : Nat) (S' : List Nat) (a : Option Addr) (n c : Nat) (S4 : List Nat), relP x x' v low ∧ z.den = (x'.v (.os 1 a n 0 0 2 (stayL M (x.D.length : Int) (low : Int)).length c)).den ∧ LeH H' [refB x' S', rM n 0 (stayL M (x.D.length : Int) (low : Int)) S4]) := by
  refine LC.of_open (enters_of (c := body Try.f32) Try.func32 rfl (by kernel_rfl)) fun w hw => ?_
  obtain ⟨H0, g1, g2, g3, g4⟩ := To.unpack hw
  obtain ⟨b1, b2, n1, o1, n2, o2, S1, S2, rfl, hden, k1, k2⟩ := g1
  have l2 : LeH ([rI n1 o1 x.D S1, rI n2 o2 x.U S2] ++ [rMr n3 o3 M S3]) [rD intD n1 o1 x.D S1 false, rD markD n3 o3 M S3 false] :=
    leAt [0, 2] (by decide) ⟨ints_dl (fun h => (by cases h)), marks_dl (fun h => h), trivial⟩
  have t2 := l2.to g4.hp
  refine ⟨[rD intD n1 o1 x.D S1 false, rD markD n3 o3 M S3 false], [.agg [.v (.int .i64 x.most), .os 0 b1 n1 o1 0 1 x.D.length x.c1, .v (.slice x.a2 x.U.length x.c2), .os 1 b3 n3 o3 0 2 M.length c3], .v (.int .i64 v)], _, g4.trans t2, ?_,
    rpu_lc x.most x.D v x.a2 b1 b3 x.U.length x.c2 n1 o1 x.c1 n3 o3 c3 M S1 S3 (by omega) hM hq (fun i hi => by have := hin i hi; rw [dAt_P2]; omega), fun r H' w' hr hw' => ?_⟩
  · have := hden (.os 1 b3 n3 o3 0 2 M.length c3)
    simp only [RH.os, RH.v, AV.den, denL] at this ⊢
    simp only [Value.agg.injEq] at this
    have := List.cons.inj (List.cons.inj (List.toArray_inj this)).2
    rw [this.1]
  · obtain ⟨low, a', a, n, c, n', c', S4, S5, e1, e2, e3, e4⟩ := hr
    have hlow : low ≤ x.D.length + 1 := by omega
    have dlen : ((x.D ++ [v]).drop low).length = x.D.length + 1 - low := by simp
    have hx' : relP x (mkR x.most ((x.D ++ [v]).drop low) [] a' none n low 0 0 (c - low) 0) v low := ⟨rfl, e1, rfl, rfl⟩
    have hC : refC (mkR x.most ((x.D ++ [v]).drop low) [] a' none n low 0 0 (c - low) 0) [rI n low ((x.D ++ [v]).drop low) S4, rI 0 0 [] []] :=
      ⟨a', none, n, low, 0, 0, S4, [], rfl, fun m => mkR_den m, by show ((x.D ++ [v]).drop low).length ≤ c - low; omega, Nat.le_refl _⟩
    have hl : LeH H' ([rI n low ((x.D ++ [v]).drop low) S4, rI 0 0 [] []] ++ [rM n' 0 (stayL M (x.D.length : Int) (low : Int)) S5]) := by
      refine e4.trans ?_
      refine (LeH.more (b := rI 0 0 [] []) rfl fun w => lst_nil (.inl rfl)).trans ?_
      refine leAt [0, 2, 1] (by decide) ⟨?_, LeB.refl _, dl_marks (fun h => h), trivial⟩
      have h1 := LeB.dl_sub (d := intD) (n := n) (o := 0) (l := x.D ++ [v]) (S := S4) (wr := none) (foc := none) (own := true) (own' := true) (r := low) (k := x.D.length + 1 - low) (fun h => h) (by simp; omega)
      rw [Nat.zero_add, show low * intD.sz = low from Nat.mul_one low, List.take_of_length_le (by rw [dlen]; exact Nat.le_refl _)] at h1
      exact ⟨fun k hk => hk, fun h => h, fun w hw => (dl_ints (own := true) (own' := true) (fun h => h)).2.2 w (h1.2.2 w hw)⟩
    have t3 := hl.to hw'
    have t4 := To.pack (Hr := [rM n' 0 (stayL M (x.D.length : Int) (low : Int)) S5]) 0 hC (refC_own _ _ hC) t3.hp
    refine ⟨(mkR x.most ((x.D ++ [v]).drop low) [] a' none n low 0 0 (c - low) 0).v (.os 1 a n' 0 0 2 (stayL M (x.D.length : Int) (low : Int)).length c'), _, ?_, ⟨_, low, _, a, n', c', S5, hx', rfl, LeH.refl _⟩, t3.trans t4⟩
    rw [e3, ← mkR_den]
    simp only [RH.os, mkR, AV.den, denL, dlen, List.length_nil, Nat.zero_mul, Nat.add_zero, Nat.zero_add, Nat.mul_one, if_true]

end Go.Proofs.Ytkjnkepdhbpnbaa

namespace Go.Eng
open Go Go.Sp

/-- Whether a known list is one of the plain form's. -/
def samePO : Handler := fun rs args H K =>
  match lastR H 0 none, args with
  | some id, [.os i1 _ n1 0 0 1 k1 _, .v (.slice a2 k2 c2)] => ∃ (l : List Int) (S1 : List Nat) (w1 : Bool) (x : RH) (S : List Nat) (m : List Int), nth H i1 = some (lI n1 l S1 w1) ∧ k1 = l.length ∧ nth H id = some (refB x S) ∧ id ≠ i1 ∧ l.length ≤ 1048576 ∧
      ((a2 = x.a1 ∧ k2 = x.D.length ∧ c2 = x.c1 ∧ m = x.D) ∨ (a2 = x.a2 ∧ k2 = x.U.length ∧ c2 = x.c2 ∧ m = x.U)) ∧ K (.ret (.v (.bool (decide (l = m))))) H
  | _, _ => sameIO rs args H K

end Go.Eng
namespace Go.Proofs.Ytkjnkepdhbpnbaa
open Go Go.Eng Go.Sp
set_option linter.unusedVariables false
set_option linter.unusedSimpArgs false

theorem rpush_ok : HOk Try.prog 32 rpushH := HOk.of_at_r (enters_of (c := body Try.f32) Try.func32 rfl (by kernel_rfl)) fun rs args H K hk => by
  unfold rpushH at hk
  split at hk
  · rename_i id q a1 l1 k1 a2 l2 k2 i b3 n3 o3 l3 c3 v hid
    obtain ⟨x, S, M, S3, w, h1, hx, h2, rfl, hne, ⟨h3, h4, h5, h6, h7⟩, hk⟩ := hk
    rw [← hx]
    refine ⟨id, refB x S, [rMr n3 o3 M S3], [x.v (.os 1 b3 n3 o3 0 2 M.length c3), .v (.int .i64 v)], _, by rw [← nth_eq]; exact h1, leAt (H := H) [id, i] (by simp [hne]) ?_, fun y hy => by cases List.mem_singleton.1 hy; rfl, rfl, rpu2_lc x S v b3 n3 o3 c3 M S3 h3 h4 h5 ⟨h6, h7⟩, fun z H' hz => ?_⟩
    · simp only [pickH, h1, h2]
      exact ⟨LeB.refl _, LeB.lst rfl (Nat.le_refl _) (fun h => (by cases h)) (.inl rfl) (fun _ _ => rfl), trivial⟩
    · obtain ⟨x', low, S', a, n, c, S4, q1, q2, q3⟩ := hz
      refine ⟨x'.v (.os H.length a n 0 0 2 (stayL M (x.D.length : Int) (low : Int)).length c), refB x' S', [rM n 0 (stayL M (x.D.length : Int) (low : Int)) S4], ?_, hk x' low S' a n c S4 q1, q3, fun b hb => ?_⟩
      · rw [q2]
        simp only [RH.v, AV.den, denL]
      · simp at hb
        rcases hb with rfl | rfl <;> rfl
  · cases hk

theorem rmarks_ok : HOk Try.prog 22 rmarksH := HOk.of_make (enters_of (c := body Try.f22) Try.func22 rfl (by kernel_rfl)) fun rs args H K hk => by
  unfold rmarksH at hk
  split at hk
  · rename_i q a1 l1 k1 a2 l2 k2 i b3 n3 o3 l3 c3
    obtain ⟨M, S3, w, h1, rfl, h2, h3, hk⟩ := hk
    refine ⟨[rD markD n3 o3 M S3 false], [.agg [.v (.int .i64 q), .v (.slice a1 l1 k1), .v (.slice a2 l2 k2), .os 0 b3 n3 o3 0 2 M.length c3]], _, leAt (H := H) [i] (by simp) ?_, fun b hb => by cases List.mem_singleton.1 hb; rfl, rfl, rms_lc q a1 a2 b3 l1 k1 l2 k2 n3 o3 c3 M S3 h2 h3, fun z H' hz => ?_⟩
    · simp only [pickH, h1]
      exact ⟨marks_dl (fun h => (by cases h)), trivial⟩
    · obtain ⟨a, n, c, S, e1, e2⟩ := hz
      exact ⟨.os H.length a n 0 0 1 (namesL M).length c, [lS n (namesL M) S true], by rw [e1]; rfl, e2.trans (leAt [0] (by decide) ⟨dl_strs (fun h => h), trivial⟩), fun b hb => by cases List.mem_singleton.1 hb; rfl, hk a n c S⟩
  · cases hk

theorem toO_ok : HOk Try.prog 24 toO := toH_ok.mono fun rs args H K hk => by
  unfold toO at hk
  split at hk
  · rename_i id n nm
    obtain ⟨s, S, rfl, hb, ok, hk⟩ := hk
    refine ⟨s, S, rfl, hb, ok, fun S' => ⟨fun h => ?_, fun v b hv => ⟨fun e => ?_, fun h n cap g h1 h2 => ?_, fun h h0 n cap g h1 h2 => ?_⟩⟩⟩
    · exact ⟨_, _, _, rfl, (by rfl), hk s [] 8 S' none 0 0 [] (.inl ⟨h, rfl, rfl, rfl⟩), LeH.more (b := lI 0 [] [] true) rfl fun w => lst_nil (.inl rfl)⟩
    · have hs : s.goTo v = s := by rw [e]; rfl
      exact ⟨_, _, _, rfl, (by rfl), hk s [] 0 S' none 0 0 [] (.inr ⟨v, b, hv, by rw [e]; exact ok.le, hs.symm, rfl, .inl ⟨by omega, by simp; omega, fun j hj => by omega⟩⟩), LeH.more (b := lI 0 [] [] true) rfl fun w => lst_nil (.inl rfl)⟩
    · have hl : ((List.range (s.at_ - v)).map g).length = s.at_ - v := by simp
      have hg : ∀ j, j < s.at_ - v → atI ((List.range (s.at_ - v)).map g) j = g j := fun j hj => by rw [atI_get (by rw [hl]; exact hj)]; simp
      refine ⟨_, _, _, rfl, ?_, hk (s.goTo v) ((List.range (s.at_ - v)).map g) 0 S' none n cap [n] (.inr ⟨v, b, hv, by have := ok.le; omega, rfl, rfl, .inl ⟨by omega, hl, fun j hj => by rw [hg j hj, h2 j hj]⟩⟩), LeH.last (LeB.rowsI (by rw [hl]; exact h1) (fun h => h) fun i hi => hg i (by rw [hl] at hi; exact hi))⟩
      simp only [AV.den, denL, hl]
      rw [if_neg (by omega)]
    · have hl : ((List.range (v - s.at_)).map g).length = v - s.at_ := by simp
      have hg : ∀ j, j < v - s.at_ → atI ((List.range (v - s.at_)).map g) j = g j := fun j hj => by rw [atI_get (by rw [hl]; exact hj)]; simp
      refine ⟨_, _, _, rfl, ?_, hk (s.goTo v) ((List.range (v - s.at_)).map g) 0 S' none n cap [n] (.inr ⟨v, b, hv, h0, rfl, rfl, .inr ⟨by omega, hl, fun j hj => by rw [hg j hj, h2 j hj]⟩⟩), LeH.last (LeB.rowsI (by rw [hl]; exact h1) (fun h => h) fun i hi => hg i (by rw [hl] at hi; exact hi))⟩
      simp only [AV.den, denL, hl]
      rw [if_neg (by omega)]
  · cases hk

end Go.Proofs.Ytkjnkepdhbpnbaa

namespace Go.Eng
open Go Go.Sp
def smjJ (l m : List Int) : Nat → TT → HH → LI := fun _ T H => .inv Nat (fun i => ((5, .v (.int .i64 (i : Int))) :: keepT [0, 1] T, H)) (fun i => i ≤ l.length ∧ ∀ q, q < i → dAt l intD.z q = dAt m intD.z q) (fun i => l.length - i)

end Go.Eng
namespace Go.Proofs.Ytkjnkepdhbpnbaa
open Go Go.Eng Go.Sp
set_option linter.unusedVariables false
set_option linter.unusedSimpArgs false


set_option maxRecDepth 100000 in
theorem smj_vc (n1 n2 o2 c1 c2 : Nat) (a1 a2 : Option Addr) (l m : List Int) (S1 S2 : List Nat) {R : AV → Prop} (h : (br ((↑l.length : Int) != (↑m.length : Int)) (R (AV.v (Value.bool false))) ((∃ (x : Nat), (x ≤ l.length ∧ ∀ (q : Nat), q < x → dAt l (0 : Int) q = dAt m (0 : Int) q) ∧ ((AV.v (Value.int IntKind.i64 (0 : Int))).den = (AV.v (Value.int IntKind.i64 (↑x : Int))).den ∧ (AV.os (0 : Nat) a1 n1 (0 : Nat) (0 : Nat) (1 : Nat) l.length c1).den = (AV.os (0 : Nat) a1 n1 (0 : Nat) (0 : Nat) (1 : Nat) l.length c1).den ∧ (AV.os (1 : Nat) a2 n2 o2 (0 : Nat) (1 : Nat) m.length c2).den = (AV.os (1 : Nat) a2 n2 o2 (0 : Nat) (1 : Nat) m.length c2).den ∧ True) ∧ LeH [Blk.mk n1 (Cont.dl Int intD (0 : Nat) l S1 none none) false, Blk.mk n2 (Cont.dl Int intD o2 m S2 none none) false] [Blk.mk n1 (Cont.dl Int intD (0 : Nat) l S1 none none) false, Blk.mk n2 (Cont.dl Int intD o2 m S2 none none) false]) ∧ ∀ (n1_1 : Nat), (n1_1 ≤ l.length ∧ ∀ (q : Nat), q < n1_1 → dAt l (0 : Int) q = dAt m (0 : Int) q) → br (decide ((↑n1_1 : Int) < (↑l.length : Int))) (((0 : Int) ≤ (↑n1_1 : Int) ∧ (↑n1_1 : Int) < (↑l.length : Int)) ∧ n1 = n1 ∧ (0 : Nat) = (0 : Nat) ∧ (0 : Nat) + (↑n1_1 : Int).toNat < l.length ∧ ((0 : Int) ≤ (↑n1_1 : Int) ∧ (↑n1_1 : Int) < (↑m.length : Int)) ∧ n2 = n2 ∧ o2 = o2 ∧ (0 : Nat) + (↑n1_1 : Int).toNat < m.length ∧ br (dAt l (0 : Int) ((0 : Nat) + (↑n1_1 : Int).toNat) != dAt m (0 : Int) ((0 : Nat) + (↑n1_1 : Int).toNat)) (R (AV.v (Value.bool false))) (∃ (x' : Nat), (x' ≤ l.length ∧ ∀ (q : Nat), q < x' → dAt l (0 : Int) q = dAt m (0 : Int) q) ∧ l.length - x' < l.length - n1_1 ∧ ((AV.v (Value.int IntKind.i64 (IntKind.i64.wrap ((↑n1_1 : Int) + (1 : Int))))).den = (AV.v (Value.int IntKind.i64 (↑x' : Int))).den ∧ (AV.os (0 : Nat) a1 n1 (0 : Nat) (0 : Nat) (1 : Nat) l.length c1).den = (AV.os (0 : Nat) a1 n1 (0 : Nat) (0 : Nat) (1 : Nat) l.length c1).den ∧ (AV.os (1 : Nat) a2 n2 o2 (0 : Nat) (1 : Nat) m.length c2).den = (AV.os (1 : Nat) a2 n2 o2 (0 : Nat) (1 : Nat) m.length c2).den ∧ True) ∧ LeH [Blk.mk n1 (Cont.dl Int intD (0 : Nat) l S1 none none) false, Blk.mk n2 (Cont.dl Int intD o2 m S2 none none) false] [Blk.mk n1 (Cont.dl Int intD (0 : Nat) l S1 none none) false, Blk.mk n2 (Cont.dl Int intD o2 m S2 none none) false])) (R (AV.v (Value.bool true)))))) : LC Try.prog 17 [.os 0 a1 n1 0 0 1 l.length c1, .os 1 a2 n2 o2 0 1 m.length c2] [rD intD n1 0 l S1 false, rD intD n2 o2 m S2 false] (fun z_ _ => R z_) :=
  lc_of_exec (tbl := []) tab_ok trivial mixed ((smjJ l m)) 2 _ Try.func17 rfl Try.ntmps17 (by decide) (by kernel_rfl) (Nat.le_of_ble_eq_true rfl) (@Eq.mpr (execN tab [] ((smjJ l m)) 2 Try.f17.ntmps [] none 0 (body Try.f17) (argsT [.os 0 a1 n1 0 0 1 l.length c1, .os 1 a2 n2 o2 0 1 m.length c2] 0) [rD intD n1 0 l S1 false, rD intD n2 o2 m S2 false] (post Try.f17 tab (retK (fun z_ _ => R z_)))) _ (by kernel_rfl) h)


theorem smj_lc (n1 n2 o2 c1 c2 : Nat) (a1 a2 : Option Addr) (l m : List Int) (S1 S2 : List Nat) (hl : l.length ≤ 1048576) : LC Try.prog 17 [.os 0 a1 n1 0 0 1 l.length c1, .os 1 a2 n2 o2 0 1 m.length c2] [rD intD n1 0 l S1 false, rD intD n2 o2 m S2 false] (fun z _ => z = .v (.bool (decide (l = m)))) :=
  smj_vc n1 n2 o2 c1 c2 a1 a2 l m S1 S2 (by
    simp only [true_and, and_true, AV.den, Value.int.injEq, br_iff, bne_iff_ne, bne_eq_false_iff_eq, beq_iff_eq, beq_eq_false_iff_ne, ne_eq, decide_eq_true_eq, decide_eq_false_iff_not, Int.toNat_natCast, Nat.zero_add]
    refine ⟨fun h => ?_, fun h => ⟨⟨0, ⟨Nat.zero_le _, fun q hq => absurd hq (Nat.not_lt_zero _)⟩, rfl, LeH.refl _⟩, fun i hi => ⟨fun hlt => ⟨⟨by omega, by omega⟩, by omega, ⟨by omega, by omega⟩, by omega, fun hne => ?_, fun he => ⟨i + 1, ⟨by omega, fun q hq => ?_⟩, by omega, by rw [w64 (by omega)]; rfl, LeH.refl _⟩⟩, fun hge => ?_⟩⟩⟩
    · have : ¬ l = m := fun e => h (by rw [e])
      simp [this]
    · have : ¬ l = m := fun e => hne (by rw [e])
      simp [this]
    · rcases Nat.lt_or_ge q i with h3 | h3
      · exact hi.2 q h3
      · obtain rfl : q = i := by omega
        exact he
    · have : l = m := listI_eq (by omega) fun q hq => hi.2 q (by omega)
      simp [this])

theorem samep_w (n1 c1 : Nat) (a1 : Option Addr) (l : List Int) (S1 : List Nat) (x : RH) (S : List Nat) (a2 : Option Addr) (k2 c2 : Nat) (m : List Int) (hl : l.length ≤ 1048576) (hm : (a2 = x.a1 ∧ k2 = x.D.length ∧ c2 = x.c1 ∧ m = x.D) ∨ (a2 = x.a2 ∧ k2 = x.U.length ∧ c2 = x.c2 ∧ m = x.U)) (w : World) (hw : HoldsH [refB x S, lI n1 l S1 false] w) (i1 : Nat) :
    ∃ (Hin : HH) (args' : List AV), HoldsH Hin w ∧ ownNums Hin = [] ∧ denL args' = denL [.os i1 a1 n1 0 0 1 l.length c1, .v (.slice a2 k2 c2)] ∧ LC Try.prog 17 args' Hin (fun z _ => z = .v (.bool (decide (l = m)))) := by
  obtain ⟨H0, g1, g2, g3, g4⟩ := To.unpack hw
  obtain ⟨b1, b2, p1, o1, p2, o2, T1, T2, rfl, hden, k1, k2'⟩ := g1
  have hd := hden (.v (.slice none 0 0))
  simp only [RH.os, RH.v, AV.den, denL] at hd
  simp only [Value.agg.injEq] at hd
  have hd := List.cons.inj (List.cons.inj (List.toArray_inj hd)).2
  have hd2 := (List.cons.inj hd.2).1
  have hd1 := hd.1
  rcases hm with ⟨rfl, rfl, rfl, rfl⟩ | ⟨rfl, rfl, rfl, rfl⟩
  · have l2 : LeH ([rI p1 o1 x.D T1, rI p2 o2 x.U T2] ++ [lI n1 l S1 false]) [rD intD n1 0 l S1 false, rD intD p1 o1 x.D T1 false] := leAt [2, 0] (by decide) ⟨ints_dl (fun h => h), ints_dl (fun h => (by cases h)), trivial⟩
    exact ⟨_, [.os 0 a1 n1 0 0 1 l.length c1, .os 1 b1 p1 o1 0 1 x.D.length x.c1], (l2.to g4.hp).hp, rfl, by simp only [denL, AV.den, hd1], smj_lc n1 p1 o1 c1 x.c1 a1 b1 l x.D S1 T1 hl⟩
  · have l2 : LeH ([rI p1 o1 x.D T1, rI p2 o2 x.U T2] ++ [lI n1 l S1 false]) [rD intD n1 0 l S1 false, rD intD p2 o2 x.U T2 false] := leAt [2, 1] (by decide) ⟨ints_dl (fun h => h), ints_dl (fun h => (by cases h)), trivial⟩
    exact ⟨_, [.os 0 a1 n1 0 0 1 l.length c1, .os 1 b2 p2 o2 0 1 x.U.length x.c2], (l2.to g4.hp).hp, rfl, by simp only [denL, AV.den, hd2], smj_lc n1 p2 o2 c1 x.c2 a1 b2 l x.U S1 T2 hl⟩

theorem samep_ok : HOk Try.prog 17 samePO := by
  have he : Enters Try.prog 17 := enters_of (c := body Try.f17) Try.func17 rfl (by kernel_rfl)
  refine ⟨he, fun rs hrs args H K w hw hk => ?_⟩
  unfold samePO at hk
  split at hk
  · rename_i id i1 a1 n1 k1 c1 a2 k2 c2 hid
    obtain ⟨l, S1, w1, x, S, m, h1, rfl, h2, hne, hl, hm, hk⟩ := hk
    have h3 : LeH H [refB x S, lI n1 l S1 false] := by
      refine leAt (H := H) [id, i1] (by simp [hne]) ?_
      simp only [pickH, h1, h2]
      exact ⟨LeB.refl _, lI_read, trivial⟩
    have hlc : LC Try.prog 17 [.os i1 a1 n1 0 0 1 l.length c1, .v (.slice a2 k2 c2)] H (fun z H' => z = .v (.bool (decide (l = m))) ∧ H' = H) :=
      LC.read (Q := fun z => z = .v (.bool (decide (l = m)))) he fun w hw => samep_w n1 c1 a1 l S1 x S a2 k2 c2 m hl hm w (h3.holds w hw) i1
    refine (hlc.calls w hw).mono fun e w' hq => ?_
    obtain ⟨v, H', rfl, ⟨rfl, rfl⟩, hx⟩ := hq
    exact ⟨_, _, rfl, hk, hx⟩
  · exact sameIO_ok.calls rs hrs _ H K w hw hk

end Go.Proofs.Ytkjnkepdhbpnbaa

