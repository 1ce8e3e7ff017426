import Derived.Test.YtjnehpljhnlbfaaT19
import Derived.Test.YtjnehpljhnlbfaaPB
namespace Go.Sp
open Go Go.Eng Go.Op Go.Proofs.Ytjnehpljhnlbfaa
def rcs (g0 g1 g2 g3 : Nat → Int) (i : Nat) : RC := ⟨g0 i, g1 i, g2 i, g3 i⟩
def ofL (rs : Nat → RC) : Nat → List (Int × RC)
  | 0 => []
  | i + 1 => (addL (ofL rs i) (i : Int) (rs i)).1
structure ofI (s : SS) (n : Nat) (rs : Nat → RC) (i : Nat) : Prop where
  ok : s.ok
  hn : s.n = n
  is : s.L = ofL rs i
structure ofO (s : SS) (rs : Nat → RC) (len : Nat) : Prop where
  ok : s.ok
  is : s.L = ofL rs len
end Go.Sp
namespace Go.Eng
open Go Go.Sp Go.Op Go.Proofs.Ytjnehpljhnlbfaa
def ofJ (rs : Nat → RC) (len : Nat) : Nat → TT → HH → LI := fun b T H =>
  match H with
  | [b0, ⟨n, _, _⟩] => .inv (Nat × SS × List Nat) (fun x => ((4, .v (.int .i64 (x.1 : Int))) :: keepT [0, 2, 3] T, [b0, packB setC n x.2.1 x.2.2])) (fun x => x.1 ≤ len ∧ ofI x.2.1 n rs x.1) (fun x => len - x.1)
  | _ => .unroll 0
abbrev rxB (n o len : Nat) (g0 g1 g2 g3 : Nat → Int) (S : List Nat) (own : Bool) : Blk := ⟨n, .lst o len [.ints .i64 g0, .ints .i64 g1, .ints .i64 g2, .ints .i64 g3] S none, own⟩
def ofsH : Handler := fun _ args H K =>
  match args with
  | [.os id a n o 0 4 len cap] => ∃ (g0 g1 g2 g3 : Nat → Int) (S : List Nat) (own : Bool), nth H id = some (rxB n o len g0 g1 g2 g3 S own) ∧ len ≤ 9223372036854775807 ∧ ∀ (s : SS), ofO s (rcs g0 g1 g2 g3) len → ∀ S', K (.ret (.ptr H.length s.n 0)) (H ++ [packB setC s.n s S'])
  | _ => False
def sameH : Handler := fun _ args H K =>
  match args with
  | [.os i1 a1 n1 0 0 1 len1 cap1, .os i2 a2 n2 0 0 1 len2 cap2] => ∃ (l1 l2 : List Int) (S1 S2 : List Nat) (o1 o2 : Bool) (w1 w2 : Option (Nat × TypeId)), nth H i1 = some ⟨n1, .lst 0 len1 [.ints .i64 (atI l1)] S1 w1, o1⟩ ∧ nth H i2 = some ⟨n2, .lst 0 len2 [.ints .i64 (atI l2)] S2 w2, o2⟩ ∧ [i1, i2].Nodup ∧
      len1 = l1.length ∧ len2 = l2.length ∧ l1.length ≤ 9223372036854775807 ∧ l2.length ≤ 9223372036854775807 ∧ K (.ret (.v (.bool (decide (l1 = l2))))) H
  | _ => False
end Go.Eng
namespace Go.Proofs.Ytjnehpljhnlbfaa
open Go Go.Eng Go.Sp Go.Op
set_option linter.unusedVariables false
set_option linter.unusedSimpArgs false
def tbOf : Tbl := (24, .gen newH) :: (25, .gen addH) :: []
theorem tbOf_ok : TblOk Try.prog tbOf := ⟨newS_ok, addS_ok, trivial⟩
set_option maxRecDepth 100000 in
theorem ofs_vc (a : Option Addr) (n o len cap : Nat) (g0 g1 g2 g3 : Nat → Int) (S : List Nat) {R : AV → HH → Prop} (h : (∀ (s : SS), newO s → ∀ (S_1 : List Nat), (∃ (x : Nat × SS × List Nat), (x.fst ≤ len ∧ ofI x.snd.fst s.n (rcs g0 g1 g2 g3) x.fst) ∧ ((i6 (0 : Int)).den = (i6 (↑x.fst : Int)).den ∧ (AV.os 0 a n o 0 4 len cap).den = (AV.os 0 a n o 0 4 len cap).den ∧ (AV.v (Value.pointer none)).den = (AV.v (Value.pointer none)).den ∧ (AV.ptr 1 s.n 0).den = (AV.ptr 1 s.n 0).den ∧ True) ∧ LeH [Blk.mk n (Cont.lst o len [Col.ints IntKind.i64 g0, Col.ints IntKind.i64 g1, Col.ints IntKind.i64 g2, Col.ints IntKind.i64 g3] S none) false, Blk.mk s.n (Cont.res (SS × List Nat) (s, S_1) (fun (x : SS × List Nat) => x.snd) (packI setC)) true] [Blk.mk n (Cont.lst o len [Col.ints IntKind.i64 g0, Col.ints IntKind.i64 g1, Col.ints IntKind.i64 g2, Col.ints IntKind.i64 g3] S none) false, Blk.mk s.n (Cont.res (SS × List Nat) (x.snd.fst, x.snd.snd) (fun (x : SS × List Nat) => x.snd) (packI setC)) true]) ∧ ∀ (x : Nat × SS × List Nat), x.fst ≤ len ∧ ofI x.snd.fst s.n (rcs g0 g1 g2 g3) x.fst → br (decide ((↑x.fst : Int) < (↑len : Int))) (((0 : Int) ≤ (↑x.fst : Int) ∧ (↑x.fst : Int) < (↑len : Int)) ∧ n = n ∧ o = o ∧ 0 + (↑x.fst : Int).toNat < len ∧ ∃ (s_1 : SS), ∃ (S_2 : List Nat), some (Blk.mk s.n (Cont.res (SS × List Nat) (x.snd.fst, x.snd.snd) (fun (x : SS × List Nat) => x.snd) (packI setC)) true) = some (Blk.mk s_1.n (Cont.res (SS × List Nat) (s_1, S_2) (fun (x : SS × List Nat) => x.snd) (packI setC)) true) ∧ s.n = s_1.n ∧ ∀ (s' : SS) (code : Int), addO s_1 s' (↑x.fst : Int) (RC.mk (g0 (0 + (↑x.fst : Int).toNat)) (g1 (0
 + (↑x.fst : Int).toNat)) (g2 (0 + (↑x.fst : Int).toNat)) (g3 (0 + (↑x.fst : Int).toNat))) code → ∀ (S' : List Nat), ∃ (x' : Nat × SS × List Nat), (x'.fst ≤ len ∧ ofI x'.snd.fst s.n (rcs g0 g1 g2 g3) x'.fst) ∧ len - x'.fst < len - x.fst ∧ ((i6 (IntKind.i64.wrap ((↑x.fst : Int) + (1 : Int)))).den = (i6 (↑x'.fst : Int)).den ∧ (AV.os 0 a n o 0 4 len cap).den = (AV.os 0 a n o 0 4 len cap).den ∧ (AV.v (Value.pointer none)).den = (AV.v (Value.pointer none)).den ∧ (AV.ptr 1 s.n 0).den = (AV.ptr 1 s.n 0).den ∧ True) ∧ LeH [Blk.mk n (Cont.lst o len [Col.ints IntKind.i64 g0, Col.ints IntKind.i64 g1, Col.ints IntKind.i64 g2, Col.ints IntKind.i64 g3] S none) false, Blk.mk s.n (Cont.res (SS × List Nat) (s', S') (fun (x : SS × List Nat) => x.snd) (packI setC)) true] [Blk.mk n (Cont.lst o len [Col.ints IntKind.i64 g0, Col.ints IntKind.i64 g1, Col.ints IntKind.i64 g2, Col.ints IntKind.i64 g3] S none) false, Blk.mk s.n (Cont.res (SS × List Nat) (x'.snd.fst, x'.snd.snd) (fun (x : SS × List Nat) => x.snd) (packI setC)) true]) (R (AV.ptr 1 s.n 0) [Blk.mk n (Cont.lst o len [Col.ints IntKind.i64 g0, Col.ints IntKind.i64 g1, Col.ints IntKind.i64 g2, Col.ints IntKind.i64 g3] S none) false, Blk.mk s.n (Cont.res (SS × List Nat) (x.snd.fst, x.snd.snd) (fun (x : SS × List Nat) => x.snd) (packI setC)) true]))) : LC Try.prog 10 [.os 0 a n o 0 4 len cap] [rxB n o len g0 g1 g2 g3 S false] R :=
  lc_of_exec (tbl := tbOf) tab_ok tbOf_ok mixed (ofJ (rcs g0 g1 g2 g3) len) 2 _ Try.func10 rfl Try.ntmps10 (by decide) (by kernel_rfl) (Nat.le_of_ble_eq_true rfl) (@Eq.mpr (execN tab tbOf (ofJ (rcs g0 g1 g2 g3) len) 2 Try.f10.ntmps [] none 0 (body Try.f10) (argsT [.os 0 a n o 0 4 len cap] 0) [rxB n o len g0 g1 g2 g3 S false] (post Try.f10 tab (retK R))) _ (by kernel_rfl) h)
set_option maxRecDepth 100000 in
theorem sm_vc (a1 a2 : Option Addr) (n1 n2 cap1 cap2 : Nat) (l1 l2 : List Int) (S1 S2 : List Nat) {R : AV → Prop} (h : (br ((↑l1.length : Int) != (↑l2.length : Int)) (R (AV.v (Value.bool false))) ((∃ (x : Nat), (x ≤ l1.length ∧ ∀ (j : Nat), j < x → atI l1 j = atI l2 j) ∧ ((AV.v (Value.int IntKind.i64 (0 : Int))).den = (AV.v (Value.int IntKind.i64 (↑x : Int))).den ∧ (AV.os (0 : Nat) a1 n1 (0 : Nat) (0 : Nat) (1 : Nat) l1.length cap1).den = (AV.os (0 : Nat) a1 n1 (0 : Nat) (0 : Nat) (1 : Nat) l1.length cap1).den ∧ (AV.os (1 : Nat) a2 n2 (0 : Nat) (0 : Nat) (1 : Nat) l2.length cap2).den = (AV.os (1 : Nat) a2 n2 (0 : Nat) (0 : Nat) (1 : Nat) l2.length cap2).den ∧ (AV.v (Value.bool false)).den = (AV.v (Value.bool false)).den ∧ True) ∧ LeH [Blk.mk n1 (Cont.lst (0 : Nat) l1.length [Col.ints IntKind.i64 (atI l1)] S1 none) false, Blk.mk n2 (Cont.lst (0 : Nat) l2.length [Col.ints IntKind.i64 (atI l2)] S2 none) false] [Blk.mk n1 (Cont.lst (0 : Nat) l1.length [Col.ints IntKind.i64 (atI l1)] S1 none) false, Blk.mk n2 (Cont.lst (0 : Nat) l2.length [Col.ints IntKind.i64 (atI l2)] S2 none) false]) ∧ ∀ (n1_1 : Nat), (n1_1 ≤ l1.length ∧ ∀ (j : Nat), j < n1_1 → atI l1 j = atI l2 j) → br (decide ((↑n1_1 : Int) < (↑l1.length : Int))) (((0 : Int) ≤ (↑n1_1 : Int) ∧ (↑n1_1 : Int) < (↑l1.length : Int)) ∧ n1 = n1 ∧ (0 : Nat) = (0 : Nat) ∧ (0 : Nat) + (↑n1_1 : Int).toNat < l1.length ∧ ((0 : Int) ≤ (↑n1_1 : Int) ∧ (↑n1_1 : Int) < (↑l2.length : Int)) ∧ n2 = n2 ∧ (0 : Nat) = (0 : Nat) ∧ (0 : Nat) + (↑n1_1 : Int).toNat < l2.length ∧ br (atI l1 ((0 : Nat) + (↑n1_1 : Int).toNat) != atI l2 ((0 : Nat) + (↑n1_1 : Int).toNat)) (R (AV.v (Value.bool false))) (∃ (x' : Nat), (x' ≤ l1.length ∧ ∀ (j : Nat), j < x' → atI l1 j = atI l2 j) ∧ l1.length - x' < l1.length - n1_1 ∧ ((AV.v (Value.int IntKind.i64 (IntKind.i64.wrap ((↑n1_1 : Int) + (1 : Int))))).den = (AV.v (Value.int IntKind.i64 (↑x' : Int))).den ∧ (AV.os (0 : Nat) a1 n1 (0 : Nat) (0 : Nat) (1 : Nat) l1.length cap1).den = (AV.os (0 : Nat) a1 n1 (0 : Nat) (0 : Nat) (1 : Nat) l1.length cap1).den ∧ (AV.os (1 : Nat) a2 n2 (0 : Nat) (0 : Nat) (1 : Nat) l2.length cap2).den = (AV.os (1 : Nat) a2 n2 (0 : Nat) (0 : Nat) (1 : Nat) l2.length cap2).den ∧ (AV.v (Value.bool false)).den = (AV.v (Value.bool false)).den ∧ True) ∧ LeH [Blk.mk n1 (Cont.lst (0 : Nat) l1.length [Col.ints IntKind.i64 (atI l1)] S1 none) false, Blk.mk n2 (Cont.lst (0 : Nat) l2.length [Col.ints IntKind.i64 (atI l2)] S2 none) false] [Blk.mk n1 (Cont.lst (0 : Nat) l1.length [Col.ints IntKind.i64 (atI l1)] S1 none) false, Blk.mk n2 (Cont.lst (0 : Nat) l2.length [Col.ints IntKind.i64 (atI l2)] S2 none) false])) (R (AV.v (Value.bool true)))))) : LC Try.prog 14 [.os 0 a1 n1 0 0 1 l1.length cap1, .os 1 a2 n2 0 0 1 l2.length cap2] [lI n1 l1 S1 false, lI n2 l2 S2 false] (fun z_ _ => R z_) :=
  lc_of_exec (tbl := []) tab_ok trivial mixed (fun _ T H => .inv Nat (fun x => ((5, .v (.int .i64 (x : Int))) :: keepT [0, 1, 4] T, H)) (fun x => x ≤ l1.length ∧ ∀ j, j < x → atI l1 j = atI l2 j) (fun x => l1.length - x)) 2 _ Try.func14 rfl Try.ntmps14 (by decide) (by kernel_rfl) (Nat.le_of_ble_eq_true rfl) (@Eq.mpr (execN tab [] (fun _ T H => .inv Nat (fun x => ((5, .v (.int .i64 (x : Int))) :: keepT [0, 1, 4] T, H)) (fun x => x ≤ l1.length ∧ ∀ j, j < x → atI l1 j = atI l2 j) (fun x => l1.length - x)) 2 Try.f14.ntmps [] none 0 (body Try.f14) (argsT [.os 0 a1 n1 0 0 1 l1.length cap1, .os 1 a2 n2 0 0 1 l2.length cap2] 0) [lI n1 l1 S1 false, lI n2 l2 S2 false] (post Try.f14 tab (retK (fun z_ _ => R z_)))) _ (by kernel_rfl) h)
end Go.Proofs.Ytjnehpljhnlbfaa
namespace Go.Sp
open Go Go.Eng Go.Op Go.Proofs.Ytjnehpljhnlbfaa
def ofR (rs : Nat → RC) (len : Nat) : List (Int × RC) := ((List.range len).filter fun i => okQ (rs i)).map fun (i : Nat) => ((i : Int), rs i)
theorem ofR_len (rs : Nat → RC) (len : Nat) : (ofR rs len).length ≤ len := by
  unfold ofR
  rw [List.length_map]
  exact Nat.le_trans (List.length_filter_le _ _) (by simp)
theorem ofR_mem {rs : Nat → RC} {len : Nat} {x : Int × RC} : x ∈ ofR rs len ↔ ∃ i : Nat, i < len ∧ okQ (rs i) = true ∧ x = ((i : Int), rs i) := by
  unfold ofR
  simp only [List.mem_map, List.mem_filter, List.mem_range]
  constructor
  · rintro ⟨i, ⟨h1, h2⟩, rfl⟩; exact ⟨i, h1, h2, rfl⟩
  · rintro ⟨i, h1, h2, rfl⟩; exact ⟨i, ⟨h1, h2⟩, rfl⟩
theorem ofR_succ (rs : Nat → RC) (len : Nat) : ofR rs (len + 1) = ofR rs len ++ (if okQ (rs len) then [((len : Int), rs len)] else []) := by
  unfold ofR
  rw [List.range_succ, List.filter_append, List.map_append]
  congr 1
  split
  · rename_i h
    simp [h]
  · rename_i h
    simp [h]
theorem ofL_eq (rs : Nat → RC) : ∀ {len : Nat}, len ≤ 8192 → ofL rs len = ofR rs len
  | 0, _ => rfl
  | i + 1, h => by
    show (addL (ofL rs i) (i : Int) (rs i)).1 = _
    rw [ofL_eq rs (by omega : i ≤ 8192), ofR_succ]
    unfold addL
    cases hq : okQ (rs i) with
    | false => simp
    | true =>
      have hni : (i : Int) ∉ (ofR rs i).map (·.1) := fun hm => by
        obtain ⟨x, hx, e⟩ := List.mem_map.1 hm
        obtain ⟨j, hj, _, rfl⟩ := ofR_mem.1 hx
        simp only at e
        omega
      have hl := ofR_len rs i
      rw [if_neg (by decide), if_neg hni, if_neg (by omega)]
      rfl
end Go.Sp
namespace Go.Proofs.Ytjnehpljhnlbfaa
open Go Go.Eng Go.Sp Go.Op
set_option linter.unusedVariables false
set_option linter.unusedSimpArgs false
theorem ofs_lc (a : Option Addr) (n o len cap : Nat) (g0 g1 g2 g3 : Nat → Int) (S : List Nat) (hlen : len ≤ 9223372036854775807) :
    LC Try.prog 10 [.os 0 a n o 0 4 len cap] [rxB n o len g0 g1 g2 g3 S false] (fun z H' => ∃ (s : SS) (S' : List Nat), ofO s (rcs g0 g1 g2 g3) len ∧ z.den = .pointer (some ⟨s.n, 0, none⟩) ∧ LeH H' [packB setC s.n s S']) :=
  ofs_vc a n o len cap g0 g1 g2 g3 S (by
    intro s hs S1
    refine ⟨⟨(0, s, S1), ⟨Nat.zero_le _, ⟨hs.ok, rfl, hs.is⟩⟩, ⟨rfl, rfl, rfl, rfl, trivial⟩, LeH.refl _⟩, ?_⟩
    rintro ⟨i, t, St⟩ ⟨hi, ok, hn, his⟩
    dsimp only at hi ok hn his ⊢
    have hi2 : 0 + (i : Int).toNat = i := by omega
    refine br_intro (fun hlt => ?_) (fun hge => ?_)
    · have hlt := of_decide_eq_true hlt
      rw [hi2]
      refine ⟨by omega, rfl, rfl, by omega, t, St, by rw [hn], hn.symm, fun s' code ha S' => ⟨(i + 1, s', S'), ⟨by simp only; omega, ⟨ha.ok, ha.n.trans hn, ?_⟩⟩, by simp only; omega, ⟨by rw [w64 (by omega)]; rfl, rfl, rfl, rfl, trivial⟩, LeH.refl _⟩⟩
      show s'.L = (addL (ofL _ i) _ _).1
      rw [← his]
      exact (Prod.mk.inj ha.is).1
    · have hge := of_decide_eq_false hge
      obtain rfl : i = len := by omega
      refine ⟨t, St, ⟨ok, his⟩, by rw [hn]; rfl, ?_⟩
      rw [← hn]
      exact leAt [1] (by decide) ⟨LeB.refl _, trivial⟩)
theorem ofsH_ok : HOk Try.prog 10 ofsH := HOk.of_make (enters_of (c := body Try.f10) Try.func10 rfl (by kernel_rfl)) fun rs args H K hk => by
  unfold ofsH at hk
  split at hk
  · rename_i id a n o len cap
    obtain ⟨g0, g1, g2, g3, S, own, h1, hlen, hk⟩ := hk
    refine ⟨_, [.os 0 a n o 0 4 len cap], _, leAt (H := H) [id] (by simp) ?_, ?_, rfl, ofs_lc a n o len cap g0 g1 g2 g3 S hlen, fun z H' hz => ?_⟩
    · simp only [pickH, h1]
      exact ⟨⟨fun k hk => hk, fun h => (by cases h), fun w h => h⟩, trivial⟩
    · intro b hb
      cases List.mem_singleton.1 hb
      rfl
    · obtain ⟨s, S', e1, e2, e3⟩ := hz
      refine ⟨.ptr H.length s.n 0, _, e2.symm, e3, ?_, hk s e1 S'⟩
      intro b hb
      cases List.mem_singleton.1 hb
      rfl
  · exact hk.elim
theorem sm_lc (a1 a2 : Option Addr) (n1 n2 cap1 cap2 : Nat) (l1 l2 : List Int) (S1 S2 : List Nat) (h1 : l1.length ≤ 9223372036854775807) (h2 : l2.length ≤ 9223372036854775807) :
    LC Try.prog 14 [.os 0 a1 n1 0 0 1 l1.length cap1, .os 1 a2 n2 0 0 1 l2.length cap2] [lI n1 l1 S1 false, lI n2 l2 S2 false] (fun z _ => z = .v (.bool (decide (l1 = l2)))) :=
  sm_vc a1 a2 n1 n2 cap1 cap2 l1 l2 S1 S2 (by
    refine br_intro (fun hb => ?_) (fun hb => ⟨⟨0, ⟨Nat.zero_le _, fun j hj => absurd hj (Nat.not_lt_zero _)⟩, ⟨rfl, rfl, rfl, rfl, trivial⟩, LeH.refl _⟩, fun i hi => ?_⟩)
    · have : ¬ l1 = l2 := fun e => by rw [e] at hb; simp at hb
      rw [decide_eq_false this]
    · have hl : l1.length = l2.length := by
        have : ((l1.length : Int) != (l2.length : Int)) = false := hb
        simp only [bne_eq_false_iff_eq] at this
        omega
      obtain ⟨hi, hj⟩ := hi
      have hi2 : 0 + (i : Int).toNat = i := by omega
      refine br_intro (fun hlt => ?_) (fun hge => ?_)
      · have hlt := of_decide_eq_true hlt
        rw [hi2]
        refine ⟨by omega, rfl, rfl, by omega, by omega, rfl, rfl, by omega, br_intro (fun hc => ?_) (fun hc => ?_)⟩
        · have : ¬ l1 = l2 := fun e => by rw [e] at hc; simp at hc
          rw [decide_eq_false this]
        · have hc : atI l1 i = atI l2 i := by simpa using hc
          refine ⟨i + 1, ⟨by omega, fun j h => ?_⟩, by omega, ⟨by rw [w64 (by omega)]; rfl, rfl, rfl, rfl, trivial⟩, LeH.refl _⟩
          rcases Nat.lt_or_ge j i with h3 | h3
          · exact hj j h3
          · obtain rfl : j = i := by omega
            exact hc
      · have hge := of_decide_eq_false hge
        have : l1 = l2 := listI_eq hl fun j h => hj j (by omega)
        rw [decide_eq_true this])
theorem same_ok : HOk Try.prog 14 sameH := HOk.of_read (enters_of (c := body Try.f14) Try.func14 rfl (by kernel_rfl)) fun rs args H K hk => by
  unfold sameH at hk
  split at hk
  · rename_i i1 a1 n1 len1 cap1 i2 a2 n2 len2 cap2
    obtain ⟨l1, l2, S1, S2, o1, o2, w1, w2, h1, h2, hnd, rfl, rfl, g1, g2, hk⟩ := hk
    refine ⟨_, [.os 0 a1 n1 0 0 1 l1.length cap1, .os 1 a2 n2 0 0 1 l2.length cap2], _, leAt (H := H) [i1, i2] hnd ?_, rfl, rfl, (sm_lc a1 a2 n1 n2 cap1 cap2 l1 l2 S1 S2 g1 g2).mono fun z H' hz => by rw [hz], hk⟩
    simp only [pickH, h1, h2]
    exact ⟨LeB.ints (Nat.le_refl _) (fun h => by cases h) (.inl rfl) fun i hi => rfl, LeB.ints (Nat.le_refl _) (fun h => by cases h) (.inl rfl) fun i hi => rfl, trivial⟩
  · exact hk.elim
end Go.Proofs.Ytjnehpljhnlbfaa
