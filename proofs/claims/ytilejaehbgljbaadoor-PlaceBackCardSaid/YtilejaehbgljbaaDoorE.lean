/- Place: letters' numbers, columns of letters, and the law of PlaceLetters. -/
import Derived.Test.YtilejaehbgljbaaDoorD
namespace Go.Proofs.YtilejaehbgljbaaDoor
open Go Go.Eng
set_option linter.unusedVariables false
set_option linter.unusedSimpArgs false

def upc (c : Int) : Int := ibits .andNot .u8 c 32
def letP (c : Int) : Int := if upc c < 65 then 0 else if upc c > 90 then 0 else IntKind.i64.wrap (IntKind.i64.wrap (IntKind.u8.wrap (upc c - 65)) + 1)
def letR (c : Int) : Int := if c ≥ 65 ∧ c ≤ 90 then IntKind.i64.wrap (IntKind.i64.wrap (IntKind.u8.wrap (c - 65)) + 1) else if c ≥ 97 ∧ c ≤ 122 then IntKind.i64.wrap (IntKind.i64.wrap (IntKind.u8.wrap (c - 97)) + 1) else 0


set_option maxRecDepth 100000 in
theorem let1_vc (c : Int) {R : AV → Prop} (h : (br (decide (ibits BinOp.andNot IntKind.u8 c (32 : Int) < (65 : Int))) (R (AV.v (Value.int IntKind.i64 (0 : Int)))) (br (decide (ibits BinOp.andNot IntKind.u8 c (32 : Int) > (90 : Int))) (R (AV.v (Value.int IntKind.i64 (0 : Int)))) (R (AV.v (Value.int IntKind.i64 (IntKind.i64.wrap (IntKind.i64.wrap (IntKind.u8.wrap (ibits BinOp.andNot IntKind.u8 c (32 : Int) - (65 : Int))) + (1 : Int))))))))) : LC Tryd.prog 29 [.v (.int .u8 c)] [] (fun z_ _ => R z_) :=
  lc_of_exec (tbl := []) tab_ok trivial mixed noinv 2 _ Tryd.func29 rfl Tryd.ntmps29 (by decide) (by kernel_rfl) (Nat.le_of_ble_eq_true rfl) (@Eq.mpr (execN tab [] noinv 2 Tryd.f29.ntmps [] none 0 (body Tryd.f29) (argsT [.v (.int .u8 c)] 0) [] (post Tryd.f29 tab (retK (fun z_ _ => R z_)))) _ (by kernel_rfl) h)

set_option maxRecDepth 100000 in
theorem let1_lc (c : Int) : LC Tryd.prog 29 [.v (.int .u8 c)] [] (fun z_ _ => z_ = .v (.int .i64 (letP c))) :=
  let1_vc c (by
    intros
    simp only [true_and, and_true, br_iff, AV.v.injEq, AV.tup.injEq, AV.agg.injEq, List.cons.injEq, Value.bool.injEq, Value.int.injEq, decide_eq_true_eq, decide_eq_false_iff_not, letP, upc]
    repeat' (first | (refine ⟨?_, ?_⟩) | intro _)
    all_goals (first | trivial | omega | (simp_all; done) | (simp_all; omega) | (rw [Bool.eq_iff_iff]; simp (config := {failIfUnchanged := false}) only [decide_eq_true_eq, Bool.false_eq_true, false_iff, iff_false, true_iff, iff_true, Bool.and_eq_true, Bool.or_eq_true]; omega) | (simp_all; rw [Bool.eq_iff_iff]; simp <;> omega)))

def let1H : List AV → Option AV
  | [.v (.int .u8 c)] => some (.v (.int .i64 (letP c)))
  | _ => none

theorem let1_ok : POk Tryd.prog 29 let1H := POk.of_lc (enters_of (c := body Tryd.f29) Tryd.func29 rfl (by kernel_rfl)) (by
  intro args v h
  unfold let1H at h
  split at h
  · cases h; exact let1_lc _
  · cases h)



set_option maxRecDepth 100000 in
theorem let2_vc (c : Int) {R : AV → Prop} (h : (br (decide (c ≥ (65 : Int))) (br (decide (c ≤ (90 : Int))) (R (AV.v (Value.int IntKind.i64 (IntKind.i64.wrap (IntKind.i64.wrap (IntKind.u8.wrap (c - (65 : Int))) + (1 : Int)))))) (br (decide (c ≥ (97 : Int))) (br (decide (c ≤ (122 : Int))) (R (AV.v (Value.int IntKind.i64 (IntKind.i64.wrap (IntKind.i64.wrap (IntKind.u8.wrap (c - (97 : Int))) + (1 : Int)))))) (R (AV.v (Value.int IntKind.i64 (0 : Int))))) (R (AV.v (Value.int IntKind.i64 (0 : Int)))))) (br (decide (c ≥ (97 : Int))) (br (decide (c ≤ (122 : Int))) (R (AV.v (Value.int IntKind.i64 (IntKind.i64.wrap (IntKind.i64.wrap (IntKind.u8.wrap (c - (97 : Int))) + (1 : Int)))))) (R (AV.v (Value.int IntKind.i64 (0 : Int))))) (R (AV.v (Value.int IntKind.i64 (0 : Int))))))) : LC Tryd.prog 30 [.v (.int .u8 c)] [] (fun z_ _ => R z_) :=
  lc_of_exec (tbl := []) tab_ok trivial mixed noinv 2 _ Tryd.func30 rfl Tryd.ntmps30 (by decide) (by kernel_rfl) (Nat.le_of_ble_eq_true rfl) (@Eq.mpr (execN tab [] noinv 2 Tryd.f30.ntmps [] none 0 (body Tryd.f30) (argsT [.v (.int .u8 c)] 0) [] (post Tryd.f30 tab (retK (fun z_ _ => R z_)))) _ (by kernel_rfl) h)

set_option maxRecDepth 100000 in
theorem let2_lc (c : Int) : LC Tryd.prog 30 [.v (.int .u8 c)] [] (fun z_ _ => z_ = .v (.int .i64 (letR c))) :=
  let2_vc c (by
    intros
    simp only [true_and, and_true, br_iff, AV.v.injEq, AV.tup.injEq, AV.agg.injEq, List.cons.injEq, Value.bool.injEq, Value.int.injEq, decide_eq_true_eq, decide_eq_false_iff_not, letR]
    repeat' (first | (refine ⟨?_, ?_⟩) | intro _)
    all_goals (first | trivial | omega | (simp_all; done) | (simp_all; omega) | (rw [Bool.eq_iff_iff]; simp (config := {failIfUnchanged := false}) only [decide_eq_true_eq, Bool.false_eq_true, false_iff, iff_false, true_iff, iff_true, Bool.and_eq_true, Bool.or_eq_true]; omega) | (simp_all; rw [Bool.eq_iff_iff]; simp <;> omega)))

def let2H : List AV → Option AV
  | [.v (.int .u8 c)] => some (.v (.int .i64 (letR c)))
  | _ => none

theorem let2_ok : POk Tryd.prog 30 let2H := POk.of_lc (enters_of (c := body Tryd.f30) Tryd.func30 rfl (by kernel_rfl)) (by
  intro args v h
  unfold let2H at h
  split at h
  · cases h; exact let2_lc _
  · cases h)


def tb7 : Tbl := (29, .pure let1H) :: (30, .pure let2H) :: tb6

theorem tb7_ok : TblOk Tryd.prog tb7 := ⟨let1_ok, let2_ok, tb6_ok⟩

def letF (c : Int) : Int := if 65 ≤ c ∧ c ≤ 90 then c - 64 else if 97 ≤ c ∧ c ≤ 122 then c - 96 else 0

theorem byteAt_b (s : ByteArray) (i : Nat) : 0 ≤ byteAt s i ∧ byteAt s i ≤ 255 := by
  unfold byteAt
  have := ((s.data.toList[i]?).getD 0).toNat_lt
  omega

theorem let_all : ∀ n : Fin 256, letP (n.val : Int) = letF (n.val : Int) ∧ letR (n.val : Int) = letF (n.val : Int) := by decide +kernel

def kx (s : ByteArray) (i : Nat) : Int := letF (byteAt s i)

theorem letP_byte (s : ByteArray) (i : Nat) : letP (byteAt s i) = kx s i := by
  unfold kx
  have h := byteAt_b s i
  have := (let_all ⟨(byteAt s i).toNat, by omega⟩).1
  have e : ((byteAt s i).toNat : Int) = byteAt s i := Int.toNat_of_nonneg h.1
  simpa [e] using this

theorem letR_byte (s : ByteArray) (i : Nat) : letR (byteAt s i) = kx s i := by
  unfold kx
  have h := byteAt_b s i
  have := (let_all ⟨(byteAt s i).toNat, by omega⟩).2
  have e : ((byteAt s i).toNat : Int) = byteAt s i := Int.toNat_of_nonneg h.1
  simpa [e] using this

theorem letF_b (c : Int) : 0 ≤ letF c ∧ letF c ≤ 26 := by unfold letF; repeat' split <;> omega

def sumC (s : ByteArray) : Int := if s.size = 1 then kx s 0 else if s.size = 2 then 26 * kx s 0 + kx s 1 else 26 * (26 * kx s 0 + kx s 1) + kx s 2
def badC (s : ByteArray) : Bool := decide (s.size < 1 ∨ s.size > 3 ∨ kx s 0 = 0 ∨ (s.size > 1 ∧ kx s 1 = 0) ∨ (s.size > 2 ∧ kx s 2 = 0))
def colE (s : ByteArray) : Int := if badC s then 5 else if sumC s > 16384 then 11 else 0
def colN (s : ByteArray) : Int := if badC s then 0 else if sumC s > 16384 then 0 else sumC s

theorem col_w (s : ByteArray) : IntKind.i64.wrap (0 + kx s 0) = kx s 0 ∧ IntKind.i64.wrap (26 * kx s 0) = 26 * kx s 0 ∧ IntKind.i64.wrap (26 * kx s 0 + kx s 1) = 26 * kx s 0 + kx s 1 ∧
    IntKind.i64.wrap (26 * (26 * kx s 0 + kx s 1)) = 26 * (26 * kx s 0 + kx s 1) ∧ IntKind.i64.wrap (26 * (26 * kx s 0 + kx s 1) + kx s 2) = 26 * (26 * kx s 0 + kx s 1) + kx s 2 := by
  have h0 := letF_b (byteAt s 0)
  have h1 := letF_b (byteAt s 1)
  have h2 := letF_b (byteAt s 2)
  simp only [kx]
  exact ⟨by rw [w64 (by omega)]; omega, w64 (by omega), w64 (by omega), w64 (by omega), w64 (by omega)⟩


set_option maxRecDepth 100000 in
theorem col_vc (s : ByteArray) {R : AV → Prop} (h : (br (decide ((↑s.size : Int) < (1 : Int))) (R (AV.tup [AV.v (Value.int IntKind.i64 (0 : Int)), AV.v (Value.int IntKind.i64 (5 : Int))])) (br (decide ((↑s.size : Int) > (3 : Int))) (R (AV.tup [AV.v (Value.int IntKind.i64 (0 : Int)), AV.v (Value.int IntKind.i64 (5 : Int))])) (br (decide ((0 : Int) < (↑s.size : Int))) (((0 : Int) ≤ (0 : Int) ∧ (0 : Int) < (↑s.size : Int)) ∧ br (letP (byteAt s (0 : Nat)) == (0 : Int)) (R (AV.tup [AV.v (Value.int IntKind.i64 (0 : Int)), AV.v (Value.int IntKind.i64 (5 : Int))])) (br (decide ((1 : Int) < (↑s.size : Int))) (((0 : Int) ≤ (1 : Int) ∧ (1 : Int) < (↑s.size : Int)) ∧ br (letP (byteAt s (1 : Nat)) == (0 : Int)) (R (AV.tup [AV.v (Value.int IntKind.i64 (0 : Int)), AV.v (Value.int IntKind.i64 (5 : Int))])) (br (decide ((2 : Int) < (↑s.size : Int))) (((0 : Int) ≤ (2 : Int) ∧ (2 : Int) < (↑s.size : Int)) ∧ br (letP (byteAt s (2 : Nat)) == (0 : Int)) (R (AV.tup [AV.v (Value.int IntKind.i64 (0 : Int)), AV.v (Value.int IntKind.i64 (5 : Int))])) (br (decide ((3 : Int) < (↑s.size : Int))) (((0 : Int) ≤ (3 : Int) ∧ (3 : Int) < (↑s.size : Int)) ∧ br (letP (byteAt s (3 : Nat)) == (0 : Int)) (R (AV.tup [AV.v (Value.int IntKind.i64 (0 : Int)), AV.v (Value.int IntKind.i64 (5 : Int))])) False) (br (decide (IntKind.i64.wrap (IntKind.i64.wrap ((26 : Int) * IntKind.i64.wrap (IntKind.i64.wrap ((26 : Int) * IntKind.i64.wrap ((0 : Int) + letP (byteAt s (0 : Nat)))) + letP (byteAt s (1 : Nat)))) + letP (byteAt s (2 : Nat))) > (16384 : Int))) (R (AV.tup [AV.v (Value.int IntKind.i64 (0 : Int)), AV.v (Value.int IntKind.i64 (11 : Int))])) (R (AV.tup [AV.v (Value.int IntKind.i64 (IntKind.i64.wrap (IntKind.i64.wrap ((26 : Int) * IntKind.i64.wrap (IntKind.i64.wrap ((26 : Int) * IntKind.i64.wrap ((0 : Int) + letP (byteAt s (0 : Nat)))) + letP (byteAt s (1 : Nat)))) + letP (byteAt s (2 : Nat))))), AV.v (Value.int IntKind.i64 (0 : Int))]))))) (br (decide (IntKind.i64.wrap (IntKind.i64.wrap ((26 : Int) * IntKind.i64.wrap ((0 : Int) + letP (byteAt s (0 : Nat)))) + letP (byteAt s (1 : Nat))) > (16384 : Int))) (R (AV.tup [AV.v (Value.int IntKind.i64 (0 : Int)), AV.v (Value.int IntKind.i64 (11 : Int))])) (R (AV.tup [AV.v (Value.int IntKind.i64 (IntKind.i64.wrap (IntKind.i64.wrap ((26 : Int) * IntKind.i64.wrap ((0 : Int) + letP (byteAt s (0 : Nat)))) + letP (byteAt s (1 : Nat))))), AV.v (Value.int IntKind.i64 (0 : Int))]))))) (br (decide (IntKind.i64.wrap ((0 : Int) + letP (byteAt s (0 : Nat))) > (16384 : Int))) (R (AV.tup [AV.v (Value.int IntKind.i64 (0 : Int)), AV.v (Value.int IntKind.i64 (11 : Int))])) (R (AV.tup [AV.v (Value.int IntKind.i64 (IntKind.i64.wrap ((0 : Int) + letP (byteAt s (0 : Nat))))), AV.v (Value.int IntKind.i64 (0 : Int))]))))) (R (AV.tup [AV.v (Value.int IntKind.i64 (0 : Int)), AV.v (Value.int IntKind.i64 (0 : Int))])))))) : LC Tryd.prog 12 [.v (.string s)] [] (fun z_ _ => R z_) :=
  lc_of_exec (tbl := tb7) tab_ok tb7_ok mixed (fun _ _ _ => .unroll 4) 2 _ Tryd.func12 rfl Tryd.ntmps12 (by decide) (by kernel_rfl) (Nat.le_of_ble_eq_true rfl) (@Eq.mpr (execN tab tb7 (fun _ _ _ => .unroll 4) 2 Tryd.f12.ntmps [] none 0 (body Tryd.f12) (argsT [.v (.string s)] 0) [] (post Tryd.f12 tab (retK (fun z_ _ => R z_)))) _ (by kernel_rfl) h)


theorem col_lc (s : ByteArray) : LC Tryd.prog 12 [.v (.string s)] [] (fun z _ => z = .tup [.v (.int .i64 (colN s)), .v (.int .i64 (colE s))]) :=
  col_vc s (by
    obtain ⟨w1, w2, w3, w4, w5⟩ := col_w s
    simp only [letP_byte, w1, w2, w3, w4, w5, AV.tup.injEq, List.cons.injEq, AV.v.injEq, Value.int.injEq, true_and, and_true]
    by_cases c0 : s.size < 1
    · have hb : badC s = true := by simp [badC, c0]
      have c0' : s.size = 0 := by omega
      simp [br_iff, c0', colN, colE, hb]
    · by_cases c1 : s.size > 3
      · have hb : badC s = true := by simp [badC]; omega
        have g0 : ¬ (s.size : Int) < 1 := by omega
        have g1 : (s.size : Int) > 3 := by omega
        simp only [decide_eq_false g0, decide_eq_true g1, br_false, br_true, colN, colE, hb]
        simp
      · have hs : s.size = 1 ∨ s.size = 2 ∨ s.size = 3 := by omega
        rcases hs with hs | hs | hs
        · by_cases k0 : kx s 0 = 0
          · simp [br_iff, hs, colN, colE, badC, sumC, k0]
          · by_cases hg : 16384 < kx s 0
            · simp [br_iff, hs, colN, colE, badC, sumC, k0, hg]
            · have hg' : ¬ 16384 < kx s 0 := hg
              simp [br_iff, hs, colN, colE, badC, sumC, k0, hg]
        · by_cases k0 : kx s 0 = 0
          · simp [br_iff, hs, colN, colE, badC, sumC, k0]
          · by_cases k1 : kx s 1 = 0
            · simp [br_iff, hs, colN, colE, badC, sumC, k0, k1]
            · by_cases hg : 16384 < 26 * kx s 0 + kx s 1
              · simp [br_iff, hs, colN, colE, badC, sumC, k0, k1, hg]
              · have hg' : ¬ 16384 < 26 * kx s 0 + kx s 1 := hg
                simp [br_iff, hs, colN, colE, badC, sumC, k0, k1, hg]
        · by_cases k0 : kx s 0 = 0
          · simp [br_iff, hs, colN, colE, badC, sumC, k0]
          · by_cases k1 : kx s 1 = 0
            · simp [br_iff, hs, colN, colE, badC, sumC, k0, k1]
            · by_cases k2 : kx s 2 = 0
              · simp [br_iff, hs, colN, colE, badC, sumC, k0, k1, k2]
              · by_cases hg : 16384 < 26 * (26 * kx s 0 + kx s 1) + kx s 2
                · simp [br_iff, hs, colN, colE, badC, sumC, k0, k1, k2, hg]
                · have hg' : ¬ 16384 < 26 * (26 * kx s 0 + kx s 1) + kx s 2 := hg
                  simp [br_iff, hs, colN, colE, badC, sumC, k0, k1, k2, hg])


set_option maxRecDepth 100000 in
theorem rCol_vc (s : ByteArray) {R : AV → Prop} (h : (br ((↑s.size : Int) == (0 : Int)) (R (AV.tup [AV.v (Value.int IntKind.i64 (0 : Int)), AV.v (Value.int IntKind.i64 (5 : Int))])) (br (decide ((↑s.size : Int) > (3 : Int))) (R (AV.tup [AV.v (Value.int IntKind.i64 (0 : Int)), AV.v (Value.int IntKind.i64 (5 : Int))])) (br (decide ((0 : Int) < (↑s.size : Int))) (((0 : Int) ≤ (0 : Int) ∧ (0 : Int) < (↑s.size : Int)) ∧ br (letR (byteAt s (0 : Nat)) == (0 : Int)) (R (AV.tup [AV.v (Value.int IntKind.i64 (0 : Int)), AV.v (Value.int IntKind.i64 (5 : Int))])) (((0 : Int) ≤ (0 : Int) ∧ (0 : Int) < (↑s.size : Int)) ∧ br (decide ((1 : Int) < (↑s.size : Int))) (((0 : Int) ≤ (1 : Int) ∧ (1 : Int) < (↑s.size : Int)) ∧ br (letR (byteAt s (1 : Nat)) == (0 : Int)) (R (AV.tup [AV.v (Value.int IntKind.i64 (0 : Int)), AV.v (Value.int IntKind.i64 (5 : Int))])) (((0 : Int) ≤ (1 : Int) ∧ (1 : Int) < (↑s.size : Int)) ∧ br (decide ((2 : Int) < (↑s.size : Int))) (((0 : Int) ≤ (2 : Int) ∧ (2 : Int) < (↑s.size : Int)) ∧ br (letR (byteAt s (2 : Nat)) == (0 : Int)) (R (AV.tup [AV.v (Value.int IntKind.i64 (0 : Int)), AV.v (Value.int IntKind.i64 (5 : Int))])) (((0 : Int) ≤ (2 : Int) ∧ (2 : Int) < (↑s.size : Int)) ∧ br (decide ((3 : Int) < (↑s.size : Int))) (((0 : Int) ≤ (3 : Int) ∧ (3 : Int) < (↑s.size : Int)) ∧ br (letR (byteAt s (3 : Nat)) == (0 : Int)) (R (AV.tup [AV.v (Value.int IntKind.i64 (0 : Int)), AV.v (Value.int IntKind.i64 (5 : Int))])) (((0 : Int) ≤ (3 : Int) ∧ (3 : Int) < (↑s.size : Int)) ∧ False)) (br (decide (IntKind.i64.wrap (IntKind.i64.wrap ((26 : Int) * IntKind.i64.wrap (IntKind.i64.wrap ((26 : Int) * IntKind.i64.wrap ((0 : Int) + letR (byteAt s (0 : Nat)))) + letR (byteAt s (1 : Nat)))) + letR (byteAt s (2 : Nat))) > (16384 : Int))) (R (AV.tup [AV.v (Value.int IntKind.i64 (0 : Int)), AV.v (Value.int IntKind.i64 (11 : Int))])) (R (AV.tup [AV.v (Value.int IntKind.i64 (IntKind.i64.wrap (IntKind.i64.wrap ((26 : Int) * IntKind.i64.wrap (IntKind.i64.wrap ((26 : Int) * IntKind.i64.wrap ((0 : Int) + letR (byteAt s (0 : Nat)))) + letR (byteAt s (1 : Nat)))) + letR (byteAt s (2 : Nat))))), AV.v (Value.int IntKind.i64 (0 : Int))]))))) (br (decide (IntKind.i64.wrap (IntKind.i64.wrap ((26 : Int) * IntKind.i64.wrap ((0 : Int) + letR (byteAt s (0 : Nat)))) + letR (byteAt s (1 : Nat))) > (16384 : Int))) (R (AV.tup [AV.v (Value.int IntKind.i64 (0 : Int)), AV.v (Value.int IntKind.i64 (11 : Int))])) (R (AV.tup [AV.v (Value.int IntKind.i64 (IntKind.i64.wrap (IntKind.i64.wrap ((26 : Int) * IntKind.i64.wrap ((0 : Int) + letR (byteAt s (0 : Nat)))) + letR (byteAt s (1 : Nat))))), AV.v (Value.int IntKind.i64 (0 : Int))]))))) (br (decide (IntKind.i64.wrap ((0 : Int) + letR (byteAt s (0 : Nat))) > (16384 : Int))) (R (AV.tup [AV.v (Value.int IntKind.i64 (0 : Int)), AV.v (Value.int IntKind.i64 (11 : Int))])) (R (AV.tup [AV.v (Value.int IntKind.i64 (IntKind.i64.wrap ((0 : Int) + letR (byteAt s (0 : Nat))))), AV.v (Value.int IntKind.i64 (0 : Int))]))))) (R (AV.tup [AV.v (Value.int IntKind.i64 (0 : Int)), AV.v (Value.int IntKind.i64 (0 : Int))])))))) : LC Tryd.prog 13 [.v (.string s)] [] (fun z_ _ => R z_) :=
  lc_of_exec (tbl := tb7) tab_ok tb7_ok mixed (fun _ _ _ => .unroll 4) 2 _ Tryd.func13 rfl Tryd.ntmps13 (by decide) (by kernel_rfl) (Nat.le_of_ble_eq_true rfl) (@Eq.mpr (execN tab tb7 (fun _ _ _ => .unroll 4) 2 Tryd.f13.ntmps [] none 0 (body Tryd.f13) (argsT [.v (.string s)] 0) [] (post Tryd.f13 tab (retK (fun z_ _ => R z_)))) _ (by kernel_rfl) h)


theorem rCol_lc (s : ByteArray) : LC Tryd.prog 13 [.v (.string s)] [] (fun z _ => z = .tup [.v (.int .i64 (colN s)), .v (.int .i64 (colE s))]) :=
  rCol_vc s (by
    obtain ⟨w1, w2, w3, w4, w5⟩ := col_w s
    simp only [letR_byte, w1, w2, w3, w4, w5, AV.tup.injEq, List.cons.injEq, AV.v.injEq, Value.int.injEq, true_and, and_true]
    by_cases c0 : s.size < 1
    · have hb : badC s = true := by simp [badC, c0]
      have c0' : s.size = 0 := by omega
      simp [br_iff, c0', colN, colE, hb]
    · by_cases c1 : s.size > 3
      · have hb : badC s = true := by simp [badC]; omega
        have g0 : ((s.size : Int) == 0) = false := by rw [beq_eq_false_iff_ne]; omega
        have g1 : (s.size : Int) > 3 := by omega
        simp only [g0, decide_eq_true g1, br_false, br_true, colN, colE, hb]
        simp
      · have hs : s.size = 1 ∨ s.size = 2 ∨ s.size = 3 := by omega
        rcases hs with hs | hs | hs
        · by_cases k0 : kx s 0 = 0
          · simp [br_iff, hs, colN, colE, badC, sumC, k0]
          · by_cases hg : 16384 < kx s 0
            · simp [br_iff, hs, colN, colE, badC, sumC, k0, hg]
            · have hg' : ¬ 16384 < kx s 0 := hg
              simp [br_iff, hs, colN, colE, badC, sumC, k0, hg]
        · by_cases k0 : kx s 0 = 0
          · simp [br_iff, hs, colN, colE, badC, sumC, k0]
          · by_cases k1 : kx s 1 = 0
            · simp [br_iff, hs, colN, colE, badC, sumC, k0, k1]
            · by_cases hg : 16384 < 26 * kx s 0 + kx s 1
              · simp [br_iff, hs, colN, colE, badC, sumC, k0, k1, hg]
              · have hg' : ¬ 16384 < 26 * kx s 0 + kx s 1 := hg
                simp [br_iff, hs, colN, colE, badC, sumC, k0, k1, hg]
        · by_cases k0 : kx s 0 = 0
          · simp [br_iff, hs, colN, colE, badC, sumC, k0]
          · by_cases k1 : kx s 1 = 0
            · simp [br_iff, hs, colN, colE, badC, sumC, k0, k1]
            · by_cases k2 : kx s 2 = 0
              · simp [br_iff, hs, colN, colE, badC, sumC, k0, k1, k2]
              · by_cases hg : 16384 < 26 * (26 * kx s 0 + kx s 1) + kx s 2
                · simp [br_iff, hs, colN, colE, badC, sumC, k0, k1, k2, hg]
                · have hg' : ¬ 16384 < 26 * (26 * kx s 0 + kx s 1) + kx s 2 := hg
                  simp [br_iff, hs, colN, colE, badC, sumC, k0, k1, k2, hg])

def colH : List AV → Option AV
  | [.v (.string s)] => some (.tup [.v (.int .i64 (colN s)), .v (.int .i64 (colE s))])
  | _ => none

theorem col_pok : POk Tryd.prog 12 colH := POk.of_lc (col_lc default).enters (by
  intro args v h
  unfold colH at h
  split at h
  · cases h; exact col_lc _
  · cases h)

theorem rCol_pok : POk Tryd.prog 13 colH := POk.of_lc (rCol_lc default).enters (by
  intro args v h
  unfold colH at h
  split at h
  · cases h; exact rCol_lc _
  · cases h)

def tb8 : Tbl := (12, .pure colH) :: (13, .pure colH) :: tb7

theorem tb8_ok : TblOk Tryd.prog tb8 := ⟨col_pok, rCol_pok, tb7_ok⟩

theorem eqS_self (a : ByteArray) : eqS a a = true := by simp [eqS]


set_option maxRecDepth 100000 in
theorem vletters_vc (c : Int) (s : ByteArray) {R : AV → Prop} (h : (br (eqS (strL c) (strL c)) (br (ifB (okC c) (0 : Int) (2 : Int) == ifB (okC c) (0 : Int) (2 : Int)) (br (colN s == colN s) (br (colE s == colE s) (R (AV.v (Value.bool true))) (R (AV.v (Value.bool false)))) (R (AV.v (Value.bool false)))) (R (AV.v (Value.bool false)))) (R (AV.v (Value.bool false))))) : LC Tryd.prog 3 [.v (.int .i64 c), .v (.string s)] [] (fun z_ _ => R z_) :=
  lc_of_exec (tbl := tb8) tab_ok tb8_ok mixed noinv 2 _ Tryd.func3 rfl Tryd.ntmps3 (by decide) (by kernel_rfl) (Nat.le_of_ble_eq_true rfl) (@Eq.mpr (execN tab tb8 noinv 2 Tryd.f3.ntmps [] none 0 (body Tryd.f3) (argsT [.v (.int .i64 c), .v (.string s)] 0) [] (post Tryd.f3 tab (retK (fun z_ _ => R z_)))) _ (by kernel_rfl) h)


theorem letters_law (c : Int) (s : ByteArray) : LC Tryd.prog 3 [.v (.int .i64 c), .v (.string s)] [] (fun z _ => z = .v (.bool true)) :=
  vletters_vc c s (by simp [br_iff, eqS_self])
end Go.Proofs.YtilejaehbgljbaaDoor

