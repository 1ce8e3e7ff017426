/- Span: what a set tells does not hang on the order: the plain law; the condition. -/
import Derived.Test.YtjnehpljhnlbfaaR3
namespace Go.Sp
open Go Go.Eng Go.Op Go.Proofs.Ytjnehpljhnlbfaa

theorem meetL_perm {L L' : List (Int × RC)} (h : L.Perm L') (q : RC) : meetL L q = meetL L' q := by
  unfold meetL
  split
  · exact sortI_eq ((h.filter _).map _)
  · rfl
theorem stabL_perm {L L' : List (Int × RC)} (h : L.Perm L') (y x : Int) : stabL L y x = stabL L' y x := by
  unfold stabL
  split
  · exact meetL_perm h _
  · rfl

/-- One that is right. -/
def oneR (id : Int) (q : RC) : List (Int × RC) := if okQ q then [(id, q)] else []
theorem oneR_mem {id : Int} {q : RC} {x : Int × RC} (h : x ∈ oneR id q) : x = (id, q) ∧ okQ q = true := by
  unfold oneR at h
  split at h
  · rename_i hq; exact ⟨List.mem_singleton.1 h, hq⟩
  · cases h
theorem add_oneR {L : List (Int × RC)} {id : Int} {q : RC} (hn : id ∉ L.map (·.1)) (hl : L.length < 8192) : (addL L id q).1 = L ++ oneR id q := by
  unfold addL oneR
  cases hq : okQ q with
  | false => simp
  | true => rw [if_neg (by decide), if_neg hn, if_neg (by omega)]; rfl

/-- What was put in, one after another. -/
def ordL (rs : Nat → RC) (n κ : Nat) : Nat → List (Int × RC)
  | 0 => []
  | i + 1 => (ordL rs n κ i ++ oneR (1000 + (i : Int)) (rs (i * 7 % n))) ++ oneR (((i + κ) % n : Nat) : Int) (rs ((i + κ) % n))

theorem oneR_len (id : Int) (q : RC) : (oneR id q).length ≤ 1 := by unfold oneR; split <;> simp
theorem ordL_len (rs : Nat → RC) (n κ : Nat) : ∀ i, (ordL rs n κ i).length ≤ 2 * i
  | 0 => Nat.le_refl _
  | i + 1 => by
    have h := ordL_len rs n κ i
    have h1 := oneR_len (1000 + (i : Int)) (rs (i * 7 % n))
    have h2 := oneR_len (((i + κ) % n : Nat) : Int) (rs ((i + κ) % n))
    unfold ordL
    rw [List.length_append, List.length_append]
    omega
theorem ordL_mem {rs : Nat → RC} {n κ : Nat} {x : Int × RC} : ∀ {i : Nat}, x ∈ ordL rs n κ i → ∃ m : Nat, m < i ∧ ((x.1 = 1000 + (m : Int)) ∨ x.1 = (((m + κ) % n : Nat) : Int))
  | 0, h => by cases h
  | i + 1, h => by
    unfold ordL at h
    rcases List.mem_append.1 h with h | h
    · rcases List.mem_append.1 h with h | h
      · obtain ⟨m, h1, h2⟩ := ordL_mem h
        exact ⟨m, by omega, h2⟩
      · exact ⟨i, by omega, .inl (by rw [(oneR_mem h).1])⟩
    · exact ⟨i, by omega, .inr (by rw [(oneR_mem h).1])⟩

theorem mod_ne {n κ m i : Nat} (hn : 0 < n) (h : m < i) (hi : i < n) : (m + κ) % n ≠ (i + κ) % n := fun e => by
  have h1 := Nat.div_add_mod (m + κ) n
  have h2 := Nat.div_add_mod (i + κ) n
  rw [e] at h1
  have h3 : n * ((m + κ) / n) < n * ((i + κ) / n) := by omega
  have h4 : (m + κ) / n < (i + κ) / n := Nat.lt_of_mul_lt_mul_left h3
  have h5 : n * ((m + κ) / n + 1) ≤ n * ((i + κ) / n) := Nat.mul_le_mul_left n h4
  rw [Nat.mul_add] at h5
  omega

theorem ordL_new1 {rs : Nat → RC} {n κ i : Nat} (hn : 0 < n) (hn2 : n ≤ 200) : (1000 + (i : Int)) ∉ (ordL rs n κ i).map (·.1) := fun hm => by
  obtain ⟨x, hx, e⟩ := List.mem_map.1 hm
  obtain ⟨m, h1, h2⟩ := ordL_mem hx
  have := Nat.mod_lt (m + κ) hn
  omega
theorem ordL_new2 {rs : Nat → RC} {n κ i : Nat} {q : RC} (hn : 0 < n) (hn2 : n ≤ 200) (hi : i < n) : (((i + κ) % n : Nat) : Int) ∉ (ordL rs n κ i ++ oneR (1000 + (i : Int)) q).map (·.1) := fun hm => by
  obtain ⟨x, hx, e⟩ := List.mem_map.1 hm
  have h0 := Nat.mod_lt (i + κ) hn
  rcases List.mem_append.1 hx with hx | hx
  · obtain ⟨m, h1, h2⟩ := ordL_mem hx
    have h3 := mod_ne (κ := κ) hn h1 hi
    have := Nat.mod_lt (m + κ) hn
    omega
  · rw [(oneR_mem hx).1] at e
    simp only at e
    omega

/-- Those of the first kind are behind a thousand. -/
def lowB (x : Int × RC) : Bool := decide (x.1 < 1000)
def rotL (rs : Nat → RC) (n κ : Nat) : Nat → List (Int × RC)
  | 0 => []
  | i + 1 => rotL rs n κ i ++ oneR (((i + κ) % n : Nat) : Int) (rs ((i + κ) % n))
theorem ordL_low {rs : Nat → RC} {n κ : Nat} (hn : 0 < n) (hn2 : n ≤ 200) : ∀ i, (ordL rs n κ i).filter lowB = rotL rs n κ i
  | 0 => rfl
  | i + 1 => by
    unfold ordL rotL
    rw [List.filter_append, List.filter_append, ordL_low hn hn2 i]
    have h0 := Nat.mod_lt (i + κ) hn
    have e1 : (oneR (1000 + (i : Int)) (rs (i * 7 % n))).filter lowB = [] := by
      rw [List.filter_eq_nil_iff]
      intro x hx
      rw [(oneR_mem hx).1]
      unfold lowB
      simp only [decide_eq_true_eq]
      omega
    have e2 : (oneR (((i + κ) % n : Nat) : Int) (rs ((i + κ) % n))).filter lowB = oneR (((i + κ) % n : Nat) : Int) (rs ((i + κ) % n)) := by
      rw [List.filter_eq_self]
      intro x hx
      rw [(oneR_mem hx).1]
      unfold lowB
      simp only [decide_eq_true_eq]
      omega
    rw [e1, e2, List.append_nil]

theorem rotL_eq (rs : Nat → RC) (n κ : Nat) : ∀ i, rotL rs n κ i = (((List.range i).map fun m => (m + κ) % n).filter fun j => okQ (rs j)).map fun (j : Nat) => ((j : Int), rs j)
  | 0 => rfl
  | i + 1 => by
    unfold rotL
    rw [rotL_eq rs n κ i, List.range_succ, List.map_append, List.filter_append, List.map_append]
    congr 1
    unfold oneR
    simp only [List.map_cons, List.map_nil]
    cases hq : okQ (rs ((i + κ) % n)) <;> simp [hq]

theorem rot_perm {n κ : Nat} (hn : 0 < n) : ((List.range n).map fun m => (m + κ) % n).Perm (List.range n) := by
  have nd : ((List.range n).map fun m => (m + κ) % n).Nodup := by
    unfold List.Nodup
    rw [List.pairwise_map]
    refine (List.pairwise_lt_range (n := n)).imp_of_mem fun {a b} ha hb h => ?_
    exact mod_ne hn h (List.mem_range.1 hb)
  refine (List.perm_ext_iff_of_nodup nd List.nodup_range).2 fun j => ⟨fun h => ?_, fun h => ?_⟩
  · obtain ⟨m, _, rfl⟩ := List.mem_map.1 h
    exact List.mem_range.2 (Nat.mod_lt _ hn)
  · have hj := List.mem_range.1 h
    refine List.mem_map.2 ⟨(j + (n - κ % n)) % n, List.mem_range.2 (Nat.mod_lt _ hn), ?_⟩
    rw [Nat.mod_add_mod]
    have h1 := Nat.div_add_mod κ n
    have h2 := Nat.mod_lt κ hn
    have e : j + (n - κ % n) + κ = j + n * (κ / n + 1) := by rw [Nat.mul_add]; omega
    rw [e, Nat.add_mul_mod_self_left, Nat.mod_eq_of_lt hj]

theorem rotL_perm (rs : Nat → RC) {n κ : Nat} (hn : 0 < n) : (rotL rs n κ n).Perm (ofR rs n) := by
  rw [rotL_eq]
  exact ((rot_perm hn).filter _).map _

structure ordI (t : SS) (n4 : Nat) (rs : Nat → RC) (n κ i : Nat) : Prop where
  ok : t.ok
  hn : t.n = n4
  is : t.L = ordL rs n κ i
structure ordG (t : SS) (n4 : Nat) (rs : Nat → RC) (n κ i : Nat) : Prop where
  ok : t.ok
  hn : t.n = n4
  is : t.L = (ordL rs n κ n).filter fun x => decide (x.1 < 1000) || decide (1000 + (i : Int) ≤ x.1)

def kap (k : Int) (n : Nat) : Nat := (IntKind.u64.wrap k).toNat % n

end Go.Sp
namespace Go.Eng
open Go Go.Sp Go.Op Go.Proofs.Ytjnehpljhnlbfaa

def ordJ (k : Int) (rs : Nat → RC) (len : Nat) : Nat → TT → HH → LI := fun b T H =>
  match H with
  | [b0, b1, b2, b3, ⟨n4, _, _⟩] =>
    bif Nat.beq b 0 then .inv (Nat × SS × List Nat) (fun x => ((12, .v (.int .i64 (x.1 : Int))) :: keepT [0, 1, 6, 7, 8, 9, 10, 11] T, [b0, b1, b2, b3, packB setC n4 x.2.1 x.2.2])) (fun x => x.1 ≤ len ∧ ordI x.2.1 n4 rs len (kap k len) x.1) (fun x => len - x.1)
    else bif Nat.beq b 2 then .inv (Nat × SS × List Nat) (fun x => ((14, .v (.int .i64 (x.1 : Int))) :: keepT [6, 7, 8, 9, 10, 11] T, [b0, b1, b2, b3, packB setC n4 x.2.1 x.2.2])) (fun x => x.1 ≤ len ∧ ordG x.2.1 n4 rs len (kap k len) x.1) (fun x => len - x.1)
    else .unroll 0
  | _ => .unroll 0

end Go.Eng
namespace Go.Proofs.Ytjnehpljhnlbfaa
open Go Go.Eng Go.Sp Go.Op
set_option linter.unusedVariables false
set_option linter.unusedSimpArgs false

def tbOr2 : Tbl := (11, .pure livesH) :: (10, .gen ofsH) :: (24, .gen newH) :: (25, .gen addH) :: (26, .gen dropH) :: (27, .gen countH) :: (15, .gen stabH) :: (16, .gen meetH) :: (14, .gen sameH) :: []

theorem tbOr2_ok : TblOk Try.prog tbOr2 := ⟨lives_ok, ofsH_ok, newS_ok, addS_ok, dropS_ok, count_ok, stab_ok, meet_ok, same_ok, trivial⟩


set_option maxRecDepth 100000 in
theorem ords_vc (a : Option Addr) (n o len cap : Nat) (g0 g1 g2 g3 : Nat → Int) (S : List Nat) (k y x t l b r : Int) {R : AV → Prop} (h : (∀ (n1 n2 : Nat), ∃ (g0_1 : Nat → Int), ∃ (g1_1 : Nat → Int), ∃ (g2_1 : Nat → Int), ∃ (g3_1 : Nat → Int), ∃ (S_1 : List Nat), ∃ (own : Bool), some (Blk.mk n (Cont.lst o len [Col.ints IntKind.i64 g0, Col.ints IntKind.i64 g1, Col.ints IntKind.i64 g2, Col.ints IntKind.i64 g3] S none) false) = some (Blk.mk n (Cont.lst o len [Col.ints IntKind.i64 g0_1, Col.ints IntKind.i64 g1_1, Col.ints IntKind.i64 g2_1, Col.ints IntKind.i64 g3_1] S_1 none) own) ∧ len ≤ 9223372036854775807 ∧ ∀ (s : SS), ofO s (rcs g0_1 g1_1 g2_1 g3_1) len → ∀ (S' : List Nat) (s_1 : SS), newO s_1 → ∀ (S_2 : List Nat), br (decide ((↑len : Int) > (200 : Int))) (R (bT)) ((∃ (x_1 : Nat × SS × List Nat), (x_1.fst ≤ len ∧ ordI x_1.snd.fst s_1.n (rcs g0 g1 g2 g3) len (kap k len) x_1.fst) ∧ ((i6 (0 : Int)).den = (i6 (↑x_1.fst : Int)).den ∧ (AV.os 0 a n o 0 4 len cap).den = (AV.os 0 a n o 0 4 len cap).den ∧ (i6 k).den = (i6 k).den ∧ (AV.ptr 1 n1 0).den = (AV.ptr 1 n1 0).den ∧ (AV.ptr 2 n2 0).den = (AV.ptr 2 n2 0).den ∧ (bF).den = (bF).den ∧ (AV.ptr 3 s.n 0).den = (AV.ptr 3 s.n 0).den ∧ (AV.ptr 4 s_1.n 0).den = (AV.ptr 4 s_1.n 0).den ∧ (i6 (↑len : Int)).den = (i6 (↑len : Int)).den ∧ True) ∧ LeH [Blk.mk n (Cont.lst o len [Col.ints IntKind.i64 g0, Col.ints IntKind.i64 g1, Col.ints IntKind.i64 g2, Col.ints IntKind.i64 g3] S none) false, Blk.mk n1 (Cont.cells [i6 y, i6 x] 24) true, Blk.mk n2 (Cont.cells [i6 t, i6 l, i6 b, i6 r] 31) true, Blk.mk s.n (Cont.res (SS × List Nat) (s, S') (fun (x : SS × List Nat) => x.snd) (packI setC))
 true, Blk.mk s_1.n (Cont.res (SS × List Nat) (s_1, S_2) (fun (x : SS × List Nat) => x.snd) (packI setC)) true] [Blk.mk n (Cont.lst o len [Col.ints IntKind.i64 g0, Col.ints IntKind.i64 g1, Col.ints IntKind.i64 g2, Col.ints IntKind.i64 g3] S none) false, Blk.mk n1 (Cont.cells [i6 y, i6 x] 24) true, Blk.mk n2 (Cont.cells [i6 t, i6 l, i6 b, i6 r] 31) true, Blk.mk s.n (Cont.res (SS × List Nat) (s, S') (fun (x : SS × List Nat) => x.snd) (packI setC)) true, Blk.mk s_1.n (Cont.res (SS × List Nat) (x_1.snd.fst, x_1.snd.snd) (fun (x : SS × List Nat) => x.snd) (packI setC)) true]) ∧ ∀ (x_1 : Nat × SS × List Nat), x_1.fst ≤ len ∧ ordI x_1.snd.fst s_1.n (rcs g0 g1 g2 g3) len (kap k len) x_1.fst → br (decide ((↑x_1.fst : Int) < (↑len : Int))) ((↑len : Int) ≠ (0 : Int) ∧ ((0 : Int) ≤ (IntKind.i64.wrap ((↑x_1.fst : Int) * (7 : Int))).tmod (↑len : Int) ∧ (IntKind.i64.wrap ((↑x_1.fst : Int) * (7 : Int))).tmod (↑len : Int) < (↑len : Int)) ∧ n = n ∧ o = o ∧ 0 + ((IntKind.i64.wrap ((↑x_1.fst : Int) * (7 : Int))).tmod (↑len : Int)).toNat < len ∧ ∃ (s_2 : SS), ∃ (S_3 : List Nat), some (Blk.mk s_1.n (Cont.res (SS × List Nat) (x_1.snd.fst, x_1.snd.snd) (fun (x : SS × List Nat) => x.snd) (packI setC)) true) = some (Blk.mk s_2.n (Cont.res (SS × List Nat) (s_2, S_3) (fun (x : SS × List Nat) => x.snd) (packI setC)) true) ∧ s_1.n = s_2.n ∧ ∀ (s' : SS) (code : Int), addO s_2 s' (IntKind.i64.wrap ((1000 : Int) + (↑x_1.fst : Int))) (RC.mk (g0 (0 + ((IntKind.i64.wrap ((↑x_1.fst : Int) * (7 : Int))).tmod (↑len
 : Int)).toNat)) (g1 (0 + ((IntKind.i64.wrap ((↑x_1.fst : Int) * (7 : Int))).tmod (↑len : Int)).toNat)) (g2 (0 + ((IntKind.i64.wrap ((↑x_1.fst : Int) * (7 : Int))).tmod (↑len : Int)).toNat)) (g3 (0 + ((IntKind.i64.wrap ((↑x_1.fst : Int) * (7 : Int))).tmod (↑len : Int)).toNat))) code → ∀ (S'_1 : List Nat), IntKind.u64.wrap (↑len : Int) ≠ (0 : Int) ∧ IntKind.u64.wrap (↑len : Int) ≠ (0 : Int) ∧ ((0 : Int) ≤ IntKind.i64.wrap ((IntKind.u64.wrap (IntKind.u64.wrap (↑x_1.fst : Int) + (IntKind.u64.wrap k).tmod (IntKind.u64.wrap (↑len : Int)))).tmod (IntKind.u64.wrap (↑len : Int))) ∧ IntKind.i64.wrap ((IntKind.u64.wrap (IntKind.u64.wrap (↑x_1.fst : Int) + (IntKind.u64.wrap k).tmod (IntKind.u64.wrap (↑len : Int)))).tmod (IntKind.u64.wrap (↑len : Int))) < (↑len : Int)) ∧ n = n ∧ o = o ∧ 0 + (IntKind.i64.wrap ((IntKind.u64.wrap (IntKind.u64.wrap (↑x_1.fst : Int) + (IntKind.u64.wrap k).tmod (IntKind.u64.wrap (↑len : Int)))).tmod (IntKind.u64.wrap (↑len : Int)))).toNat < len ∧ ∃ (s_3 : SS), ∃ (S_4 : List Nat), some (Blk.mk s_1.n (Cont.res (SS × List Nat) (s', S'_1) (fun (x : SS × List Nat) => x.snd) (packI setC)) true) = some (Blk.mk s_3.n (Cont.res (SS × List Nat) (s_3, S_4) (fun (x : SS × List Nat) => x.snd) (packI setC)) true) ∧ s_1.n = s_3.n ∧ ∀ (s' : SS) (code : Int), addO s_3 s' (IntKind.i64.wrap ((IntKind.u64.wrap (IntKind.u64.wrap (↑x_1.fst : Int) + (IntKind.u64.wrap k).tmod (IntKind.u64.wrap (↑len : Int)))).tmod (IntKind.u64.wrap (↑len : Int)))) (RC.mk (g0 (0 + (IntKind.i64.wrap ((IntKind.u64.wrap
 (IntKind.u64.wrap (↑x_1.fst : Int) + (IntKind.u64.wrap k).tmod (IntKind.u64.wrap (↑len : Int)))).tmod (IntKind.u64.wrap (↑len : Int)))).toNat)) (g1 (0 + (IntKind.i64.wrap ((IntKind.u64.wrap (IntKind.u64.wrap (↑x_1.fst : Int) + (IntKind.u64.wrap k).tmod (IntKind.u64.wrap (↑len : Int)))).tmod (IntKind.u64.wrap (↑len : Int)))).toNat)) (g2 (0 + (IntKind.i64.wrap ((IntKind.u64.wrap (IntKind.u64.wrap (↑x_1.fst : Int) + (IntKind.u64.wrap k).tmod (IntKind.u64.wrap (↑len : Int)))).tmod (IntKind.u64.wrap (↑len : Int)))).toNat)) (g3 (0 + (IntKind.i64.wrap ((IntKind.u64.wrap (IntKind.u64.wrap (↑x_1.fst : Int) + (IntKind.u64.wrap k).tmod (IntKind.u64.wrap (↑len : Int)))).tmod (IntKind.u64.wrap (↑len : Int)))).toNat))) code → ∀ (S'_2 : List Nat), ∃ (x' : Nat × SS × List Nat), (x'.fst ≤ len ∧ ordI x'.snd.fst s_1.n (rcs g0 g1 g2 g3) len (kap k len) x'.fst) ∧ len - x'.fst < len - x_1.fst ∧ ((i6 (IntKind.i64.wrap ((↑x_1.fst : Int) + (1 : Int)))).den = (i6 (↑x'.fst : Int)).den ∧ (AV.os 0 a n o 0 4 len cap).den = (AV.os 0 a n o 0 4 len cap).den ∧ (i6 k).den = (i6 k).den ∧ (AV.ptr 1 n1 0).den = (AV.ptr 1 n1 0).den ∧ (AV.ptr 2 n2 0).den = (AV.ptr 2 n2 0).den ∧ (bF).den = (bF).den ∧ (AV.ptr 3 s.n 0).den = (AV.ptr 3 s.n 0).den ∧ (AV.ptr 4 s_1.n 0).den = (AV.ptr 4 s_1.n 0).den ∧ (i6 (↑len : Int)).den = (i6 (↑len : Int)).den ∧ True) ∧ LeH [Blk.mk n (Cont.lst o len [Col.ints IntKind.i64 g0, Col.ints IntKind.i64 g1, Col.ints IntKind.i64 g2, Col.ints IntKind.i64 g3] S none) false, Blk.mk n1 (Cont.cells [i6
 y, i6 x] 24) true, Blk.mk n2 (Cont.cells [i6 t, i6 l, i6 b, i6 r] 31) true, Blk.mk s.n (Cont.res (SS × List Nat) (s, S') (fun (x : SS × List Nat) => x.snd) (packI setC)) true, Blk.mk s_1.n (Cont.res (SS × List Nat) (s', S'_2) (fun (x : SS × List Nat) => x.snd) (packI setC)) true] [Blk.mk n (Cont.lst o len [Col.ints IntKind.i64 g0, Col.ints IntKind.i64 g1, Col.ints IntKind.i64 g2, Col.ints IntKind.i64 g3] S none) false, Blk.mk n1 (Cont.cells [i6 y, i6 x] 24) true, Blk.mk n2 (Cont.cells [i6 t, i6 l, i6 b, i6 r] 31) true, Blk.mk s.n (Cont.res (SS × List Nat) (s, S') (fun (x : SS × List Nat) => x.snd) (packI setC)) true, Blk.mk s_1.n (Cont.res (SS × List Nat) (x'.snd.fst, x'.snd.snd) (fun (x : SS × List Nat) => x.snd) (packI setC)) true]) ((∃ (x_2 : Nat × SS × List Nat), (x_2.fst ≤ len ∧ ordG x_2.snd.fst s_1.n (rcs g0 g1 g2 g3) len (kap k len) x_2.fst) ∧ ((i6 (0 : Int)).den = (i6 (↑x_2.fst : Int)).den ∧ (AV.ptr 1 n1 0).den = (AV.ptr 1 n1 0).den ∧ (AV.ptr 2 n2 0).den = (AV.ptr 2 n2 0).den ∧ (bF).den = (bF).den ∧ (AV.ptr 3 s.n 0).den = (AV.ptr 3 s.n 0).den ∧ (AV.ptr 4 s_1.n 0).den = (AV.ptr 4 s_1.n 0).den ∧ (i6 (↑len : Int)).den = (i6 (↑len : Int)).den ∧ True) ∧ LeH [Blk.mk n (Cont.lst o len [Col.ints IntKind.i64 g0, Col.ints IntKind.i64 g1, Col.ints IntKind.i64 g2, Col.ints IntKind.i64 g3] S none) false, Blk.mk n1 (Cont.cells [i6 y, i6 x] 24) true, Blk.mk n2 (Cont.cells [i6 t, i6 l, i6 b, i6 r] 31) true, Blk.mk s.n (Cont.res (SS × List Nat) (s, S') (fun (x : SS × List Nat) => x.snd)
 (packI setC)) true, Blk.mk s_1.n (Cont.res (SS × List Nat) (x_1.snd.fst, x_1.snd.snd) (fun (x : SS × List Nat) => x.snd) (packI setC)) true] [Blk.mk n (Cont.lst o len [Col.ints IntKind.i64 g0, Col.ints IntKind.i64 g1, Col.ints IntKind.i64 g2, Col.ints IntKind.i64 g3] S none) false, Blk.mk n1 (Cont.cells [i6 y, i6 x] 24) true, Blk.mk n2 (Cont.cells [i6 t, i6 l, i6 b, i6 r] 31) true, Blk.mk s.n (Cont.res (SS × List Nat) (s, S') (fun (x : SS × List Nat) => x.snd) (packI setC)) true, Blk.mk s_1.n (Cont.res (SS × List Nat) (x_2.snd.fst, x_2.snd.snd) (fun (x : SS × List Nat) => x.snd) (packI setC)) true]) ∧ ∀ (x_2 : Nat × SS × List Nat), x_2.fst ≤ len ∧ ordG x_2.snd.fst s_1.n (rcs g0 g1 g2 g3) len (kap k len) x_2.fst → br (decide ((↑x_2.fst : Int) < (↑len : Int))) (∃ (s_2 : SS), ∃ (S_3 : List Nat), some (Blk.mk s_1.n (Cont.res (SS × List Nat) (x_2.snd.fst, x_2.snd.snd) (fun (x : SS × List Nat) => x.snd) (packI setC)) true) = some (Blk.mk s_2.n (Cont.res (SS × List Nat) (s_2, S_3) (fun (x : SS × List Nat) => x.snd) (packI setC)) true) ∧ s_1.n = s_2.n ∧ ∀ (s' : SS) (b22 : Bool), dropO s_2 s' (IntKind.i64.wrap ((1000 : Int) + (↑x_2.fst : Int))) b22 → ∀ (S'_1 : List Nat), ∃ (x' : Nat × SS × List Nat), (x'.fst ≤ len ∧ ordG x'.snd.fst s_1.n (rcs g0 g1 g2 g3) len (kap k len) x'.fst) ∧ len - x'.fst < len - x_2.fst ∧ ((i6 (IntKind.i64.wrap ((↑x_2.fst : Int) + (1 : Int)))).den = (i6 (↑x'.fst : Int)).den ∧ (AV.ptr 1 n1 0).den = (AV.ptr 1 n1 0).den ∧ (AV.ptr 2 n2 0).den = (AV.ptr 2 n2 0).den ∧
 (bF).den = (bF).den ∧ (AV.ptr 3 s.n 0).den = (AV.ptr 3 s.n 0).den ∧ (AV.ptr 4 s_1.n 0).den = (AV.ptr 4 s_1.n 0).den ∧ (i6 (↑len : Int)).den = (i6 (↑len : Int)).den ∧ True) ∧ LeH [Blk.mk n (Cont.lst o len [Col.ints IntKind.i64 g0, Col.ints IntKind.i64 g1, Col.ints IntKind.i64 g2, Col.ints IntKind.i64 g3] S none) false, Blk.mk n1 (Cont.cells [i6 y, i6 x] 24) true, Blk.mk n2 (Cont.cells [i6 t, i6 l, i6 b, i6 r] 31) true, Blk.mk s.n (Cont.res (SS × List Nat) (s, S') (fun (x : SS × List Nat) => x.snd) (packI setC)) true, Blk.mk s_1.n (Cont.res (SS × List Nat) (s', S'_1) (fun (x : SS × List Nat) => x.snd) (packI setC)) true] [Blk.mk n (Cont.lst o len [Col.ints IntKind.i64 g0, Col.ints IntKind.i64 g1, Col.ints IntKind.i64 g2, Col.ints IntKind.i64 g3] S none) false, Blk.mk n1 (Cont.cells [i6 y, i6 x] 24) true, Blk.mk n2 (Cont.cells [i6 t, i6 l, i6 b, i6 r] 31) true, Blk.mk s.n (Cont.res (SS × List Nat) (s, S') (fun (x : SS × List Nat) => x.snd) (packI setC)) true, Blk.mk s_1.n (Cont.res (SS × List Nat) (x'.snd.fst, x'.snd.snd) (fun (x : SS × List Nat) => x.snd) (packI setC)) true]) (∃ (s_2 : SS), ∃ (S : List Nat), some (Blk.mk s.n (Cont.res (SS × List Nat) (s, S') (fun (x : SS × List Nat) => x.snd) (packI setC)) true) = some (Blk.mk s_2.n (Cont.res (SS × List Nat) (s_2, S) (fun (x : SS × List Nat) => x.snd) (packI setC)) true) ∧ s.n = s_2.n ∧ ∃ (s_3 : SS), ∃ (S : List Nat), some (Blk.mk s_1.n (Cont.res (SS × List Nat) (x_2.snd.fst, x_2.snd.snd) (fun (x : SS × List Nat) => x.snd) (packI
 setC)) true) = some (Blk.mk s_3.n (Cont.res (SS × List Nat) (s_3, S) (fun (x : SS × List Nat) => x.snd) (packI setC)) true) ∧ s_1.n = s_3.n ∧ br ((↑s_2.L.length : Int) == (↑s_3.L.length : Int)) (n1 = n1 ∧ n1 = n1 ∧ ∃ (s_4 : SS), ∃ (S : List Nat), some (Blk.mk s.n (Cont.res (SS × List Nat) (s, S') (fun (x : SS × List Nat) => x.snd) (packI setC)) true) = some (Blk.mk s_4.n (Cont.res (SS × List Nat) (s_4, S) (fun (x : SS × List Nat) => x.snd) (packI setC)) true) ∧ s.n = s_4.n ∧ ∀ (l_1 : List Int) (a : Option Addr) (n27 n28 : Nat) (S'_1 : List Nat), stabO s_4.L y x l_1 → some (Blk.mk n1 (Cont.cells [i6 y, i6 x] 24) true) = some (Blk.mk n1 (Cont.cells [i6 y, i6 x] 24) true) ∧ ∃ (s_5 : SS), ∃ (S : List Nat), some (Blk.mk s_1.n (Cont.res (SS × List Nat) (x_2.snd.fst, x_2.snd.snd) (fun (x : SS × List Nat) => x.snd) (packI setC)) true) = some (Blk.mk s_5.n (Cont.res (SS × List Nat) (s_5, S) (fun (x : SS × List Nat) => x.snd) (packI setC)) true) ∧ s_1.n = s_5.n ∧ ∀ (l_2 : List Int) (a : Option Addr) (n35 n36 : Nat) (S'_2 : List Nat), stabO s_5.L y x l_2 → some (Blk.mk n1 (Cont.cells [i6 y, i6 x] 24) true) = some (Blk.mk n1 (Cont.cells [i6 y, i6 x] 24) true) ∧ ∃ (l1 : List Int), ∃ (l2 : List Int), ∃ (S1 : List Nat), ∃ (S2 : List Nat), ∃ (o1 : Bool), ∃ (o2 : Bool), ∃ (w1 : Option (Nat × TypeId)), ∃ (w2 : Option (Nat × TypeId)), some (Blk.mk n27 (Cont.lst 0 l_1.length [Col.ints IntKind.i64 (atI l_1)] S'_1 none) true) = some (Blk.mk n27 (Cont.lst 0 l_1.length [Col.ints IntKind.i64 (atI l1)]
 S1 w1) o1) ∧ some (Blk.mk n35 (Cont.lst 0 l_2.length [Col.ints IntKind.i64 (atI l_2)] S'_2 none) true) = some (Blk.mk n35 (Cont.lst 0 l_2.length [Col.ints IntKind.i64 (atI l2)] S2 w2) o2) ∧ List.Pairwise (fun (x1 x2 : Nat) => x1 ≠ x2) [5, 6] ∧ l_1.length = l1.length ∧ l_2.length = l2.length ∧ l1.length ≤ 9223372036854775807 ∧ l2.length ≤ 9223372036854775807 ∧ some (Blk.mk n1 (Cont.cells [i6 y, i6 x] 24) true) = some (Blk.mk n1 (Cont.cells [i6 y, i6 x] 24) true) ∧ some (Blk.mk n1 (Cont.cells [i6 y, i6 x] 24) true) = some (Blk.mk n1 (Cont.cells [i6 y, i6 x] 24) true) ∧ br (decide (l1 = l2)) (n2 = n2 ∧ n2 = n2 ∧ ∃ (s_6 : SS), ∃ (S : List Nat), ∃ (o : Bool), some (Blk.mk s.n (Cont.res (SS × List Nat) (s, S') (fun (x : SS × List Nat) => x.snd) (packI setC)) true) = some (Blk.mk s_6.n (Cont.res (SS × List Nat) (s_6, S) (fun (x : SS × List Nat) => x.snd) (packI setC)) o) ∧ s.n = s_6.n ∧ ∀ (l_3 : List Int) (a : Option Addr) (n52 n53 : Nat) (S' : List Nat), meetO s_6.L (RC.mk t l b r) l_3 → some (Blk.mk n2 (Cont.cells [i6 t, i6 l, i6 b, i6 r] 31) true) = some (Blk.mk n2 (Cont.cells [i6 t, i6 l, i6 b, i6 r] 31) true) ∧ some (Blk.mk n1 (Cont.cells [i6 y, i6 x] 24) true) = some (Blk.mk n1 (Cont.cells [i6 y, i6 x] 24) true) ∧ some (Blk.mk n1 (Cont.cells [i6 y, i6 x] 24) true) = some (Blk.mk n1 (Cont.cells [i6 y, i6 x] 24) true) ∧ ∃ (s : SS), ∃ (S : List Nat), ∃ (o : Bool), some (Blk.mk s_1.n (Cont.res (SS × List Nat) (x_2.snd.fst, x_2.snd.snd) (fun (x : SS × List Nat) => x.snd) (packI setC))
 true) = some (Blk.mk s.n (Cont.res (SS × List Nat) (s, S) (fun (x : SS × List Nat) => x.snd) (packI setC)) o) ∧ s_1.n = s.n ∧ ∀ (l_4 : List Int) (a : Option Addr) (n61 n62 : Nat) (S'_3 : List Nat), meetO s.L (RC.mk t l b r) l_4 → some (Blk.mk n2 (Cont.cells [i6 t, i6 l, i6 b, i6 r] 31) true) = some (Blk.mk n2 (Cont.cells [i6 t, i6 l, i6 b, i6 r] 31) true) ∧ some (Blk.mk n1 (Cont.cells [i6 y, i6 x] 24) true) = some (Blk.mk n1 (Cont.cells [i6 y, i6 x] 24) true) ∧ some (Blk.mk n1 (Cont.cells [i6 y, i6 x] 24) true) = some (Blk.mk n1 (Cont.cells [i6 y, i6 x] 24) true) ∧ ∃ (l1 : List Int), ∃ (l2 : List Int), ∃ (S1 : List Nat), ∃ (S2 : List Nat), ∃ (o1 : Bool), ∃ (o2 : Bool), ∃ (w1 : Option (Nat × TypeId)), ∃ (w2 : Option (Nat × TypeId)), some (Blk.mk n52 (Cont.lst 0 l_3.length [Col.ints IntKind.i64 (atI l_3)] S' none) true) = some (Blk.mk n52 (Cont.lst 0 l_3.length [Col.ints IntKind.i64 (atI l1)] S1 w1) o1) ∧ some (Blk.mk n61 (Cont.lst 0 l_4.length [Col.ints IntKind.i64 (atI l_4)] S'_3 none) true) = some (Blk.mk n61 (Cont.lst 0 l_4.length [Col.ints IntKind.i64 (atI l2)] S2 w2) o2) ∧ List.Pairwise (fun (x1 x2 : Nat) => x1 ≠ x2) [7, 8] ∧ l_3.length = l1.length ∧ l_4.length = l2.length ∧ l1.length ≤ 9223372036854775807 ∧ l2.length ≤ 9223372036854775807 ∧ some (Blk.mk n2 (Cont.cells [i6 t, i6 l, i6 b, i6 r] 31) true) = some (Blk.mk n2 (Cont.cells [i6 t, i6 l, i6 b, i6 r] 31) true) ∧ some (Blk.mk n2 (Cont.cells [i6 t, i6 l, i6 b, i6 r] 31) true) = some (Blk.mk n2 (Cont.cells [i6 t, i6 l,
 i6 b, i6 r] 31) true) ∧ some (Blk.mk n1 (Cont.cells [i6 y, i6 x] 24) true) = some (Blk.mk n1 (Cont.cells [i6 y, i6 x] 24) true) ∧ some (Blk.mk n1 (Cont.cells [i6 y, i6 x] 24) true) = some (Blk.mk n1 (Cont.cells [i6 y, i6 x] 24) true) ∧ br (decide (l1 = l2)) (R (bT)) (R (bF))) (R (bF))) (R (bF))))))) : LC Try.prog 6 [.os 0 a n o 0 4 len cap, .v (.int .i64 k), .agg [.v (.int .i64 y), .v (.int .i64 x)], .agg [.v (.int .i64 t), .v (.int .i64 l), .v (.int .i64 b), .v (.int .i64 r)]] [rxB n o len g0 g1 g2 g3 S false] (fun z_ _ => R z_) :=
  lc_of_exec (tbl := tbOr2) tab_ok tbOr2_ok mixed (ordJ k (rcs g0 g1 g2 g3) len) 2 _ Try.func6 rfl Try.ntmps6 (by decide) (by kernel_rfl) (Nat.le_of_ble_eq_true rfl) (@Eq.mpr (execN tab tbOr2 (ordJ k (rcs g0 g1 g2 g3) len) 2 Try.f6.ntmps [] none 0 (body Try.f6) (argsT [.os 0 a n o 0 4 len cap, .v (.int .i64 k), .agg [.v (.int .i64 y), .v (.int .i64 x)], .agg [.v (.int .i64 t), .v (.int .i64 l), .v (.int .i64 b), .v (.int .i64 r)]] 0) [rxB n o len g0 g1 g2 g3 S false] (post Try.f6 tab (retK (fun z_ _ => R z_)))) _ (by kernel_rfl) h)


end Go.Proofs.Ytjnehpljhnlbfaa

