/- View: letters of columns. -/
import Derived.Test.YthkegefjmcipmaaDoorPA
import Derived.Test.YthkegefjmcipmaaDoorB
namespace Go.Proofs.YthkegefjmcipmaaDoor
open Go Go.Eng
set_option linter.unusedVariables false
set_option linter.unusedSimpArgs false

theorem w8 {x : Int} (h : 0 ≤ x ∧ x ≤ 255) : IntKind.u8.wrap x = x := IntWalk.u8_in _ h

/-- The letters of a column, by their numbers. -/
def ltrs (c : Int) : List Int :=
  if c ≤ 26 then [64 + c] else if c ≤ 702 then [64 + (c - 1) / 26, 65 + (c - 1) % 26] else [64 + ((c - 1) / 26 - 1) / 26, 65 + ((c - 1) / 26 - 1) % 26, 65 + (c - 1) % 26]

def okC (c : Int) : Bool := decide (1 ≤ c ∧ c ≤ 16384)
def strL (c : Int) : ByteArray := if okC c then mkI (ltrs c) else ByteArray.mk #[]

theorem catS_mkI (a b : List Int) : catS (mkI a) (mkI b) = mkI (a ++ b) := by simp [catS, mkI, mkS]
theorem catS_nil (a : List Int) : catS (mkI a) (ByteArray.mk #[]) = mkI a := by simp [catS, mkI, mkS]

theorem size_mkI (l : List Int) : (mkI l).size = l.length := by simp [mkI, mkS, ByteArray.size]

theorem tdiv_nn {a : Int} (h : 0 ≤ a) (b : Int) : a.tdiv b = a / b := Int.tdiv_eq_ediv_of_nonneg h
theorem tmod_nn {a : Int} (h : 0 ≤ a) (b : Int) : a.tmod b = a % b := Int.tmod_eq_emod_of_nonneg h


set_option maxRecDepth 100000 in
theorem letters_vc (c : Int) {R : AV → Prop} (h : (br (decide (c < (1 : Int))) (R (AV.tup [AV.v (Value.string (ByteArray.mk #[])), AV.v (Value.int IntKind.i64 (2 : Int))])) (br (decide (c > (16384 : Int))) (R (AV.tup [AV.v (Value.string (ByteArray.mk #[])), AV.v (Value.int IntKind.i64 (2 : Int))])) (∀ (n1 : Nat), br (decide (c > (0 : Int))) ((26 : Int) ≠ (0 : Int) ∧ ((0 : Int) ≤ (2 : Int) ∧ (2 : Int) < (3 : Int)) ∧ n1 = n1 ∧ (26 : Int) ≠ (0 : Int) ∧ br (decide (IntKind.i64.wrap ((IntKind.i64.wrap (c - (1 : Int))).tdiv (26 : Int)) > (0 : Int))) ((26 : Int) ≠ (0 : Int) ∧ ((0 : Int) ≤ (1 : Int) ∧ (1 : Int) < (3 : Int)) ∧ n1 = n1 ∧ (26 : Int) ≠ (0 : Int) ∧ br (decide (IntKind.i64.wrap ((IntKind.i64.wrap (IntKind.i64.wrap ((IntKind.i64.wrap (c - (1 : Int))).tdiv (26 : Int)) - (1 : Int))).tdiv (26 : Int)) > (0 : Int))) ((26 : Int) ≠ (0 : Int) ∧ ((0 : Int) ≤ (0 : Int) ∧ (0 : Int) < (3 : Int)) ∧ n1 = n1 ∧ (26 : Int) ≠ (0 : Int) ∧ br (decide (IntKind.i64.wrap ((IntKind.i64.wrap (IntKind.i64.wrap ((IntKind.i64.wrap (IntKind.i64.wrap ((IntKind.i64.wrap (c - (1 : Int))).tdiv (26 : Int)) - (1 : Int))).tdiv (26 : Int)) - (1 : Int))).tdiv (26 : Int)) > (0 : Int))) ((26 : Int) ≠ (0 : Int) ∧ ((0 : Int) ≤ (-1 : Int) ∧ (-1 : Int) < (3 : Int)) ∧ n1 = n1 ∧ (26 : Int) ≠ (0 : Int) ∧ False) (((0 : Int) ≤ (0 : Int) ∧ (0 : Int) ≤ (3 : Int)) ∧ (3 : Nat) ≤ (3 : Nat) ∧ n1 = n1 ∧ R (AV.tup [AV.v (Value.string (mkI [IntKind.u8.wrap ((65 : Int) + IntKind.u8.wrap ((IntKind.i64.wrap (IntKind.i64.wrap ((IntKind.i64.wrap (IntKind.i64.wrap ((IntKind.i64.wrap (c - (1 : Int))).tdiv (26 : Int)) - (1 : Int))).tdiv (26 : Int)) - (1 : Int))).tmod (26 : Int))), IntKind.u8.wrap ((65 : Int) + IntKind.u8.wrap ((IntKind.i64.wrap (IntKind.i64.wrap ((IntKind.i64.wrap (c - (1 : Int))).tdiv (26 : Int)) - (1 : Int))).tmod (26 : Int))), IntKind.u8.wrap ((65 : Int) + IntKind.u8.wrap ((IntKind.i64.wrap (c - (1 : Int))).tmod (26 : Int)))])), AV.v (Value.int IntKind.i64 (0 : Int))]))) (((0 : Int) ≤ (1 : Int) ∧ (1 : Int) ≤ (3 : Int)) ∧ (3 : Nat) ≤ (3 : Nat) ∧ n1 = n1 ∧ R (AV.tup [AV.v (Value.string (mkI [IntKind.u8.wrap ((65 : Int) + IntKind.u8.wrap ((IntKind.i64.wrap (IntKind.i64.wrap ((IntKind.i64.wrap (c - (1 : Int))).tdiv (26 : Int)) - (1 : Int))).tmod (26 : Int))), IntKind.u8.wrap ((65 : Int) + IntKind.u8.wrap ((IntKind.i64.wrap (c - (1 : Int))).tmod (26 : Int)))])), AV.v (Value.int IntKind.i64 (0 : Int))]))) (((0 : Int) ≤ (2 : Int) ∧ (2 : Int) ≤ (3 : Int)) ∧ (3 : Nat) ≤ (3 : Nat) ∧ n1 = n1 ∧ R (AV.tup [AV.v (Value.string (mkI [IntKind.u8.wrap ((65 : Int) + IntKind.u8.wrap ((IntKind.i64.wrap (c - (1 : Int))).tmod (26 : Int)))])), AV.v (Value.int IntKind.i64 (0 : Int))]))) (((0 : Int) ≤ (3 : Int) ∧ (3 : Int) ≤ (3 : Int)) ∧ (3 : Nat) ≤ (3 : Nat) ∧ n1 = n1 ∧ R (AV.tup [AV.v (Value.string (mkI [])), AV.v (Value.int IntKind.i64 (0 : Int))])))))) : LC Tryd.prog 39 [.v (.int .i64 c)] [] (fun z_ _ => R z_) :=
  lc_of_exec (tbl := []) tab_ok trivial mixed (fun _ _ _ => .unroll 4) 2 _ Tryd.func39 rfl Tryd.ntmps39 (by decide) (by kernel_rfl) (Nat.le_of_ble_eq_true rfl) (@Eq.mpr (execN tab [] (fun _ _ _ => .unroll 4) 2 Tryd.f39.ntmps [] none 0 (body Tryd.f39) (argsT [.v (.int .i64 c)] 0) [] (post Tryd.f39 tab (retK (fun z_ _ => R z_)))) _ (by kernel_rfl) h)


theorem letters_lc (c : Int) : LC Tryd.prog 39 [.v (.int .i64 c)] [] (fun z _ => z = .tup [.v (.string (strL c)), .v (.int .i64 (ifB (okC c) 0 2))]) :=
  letters_vc c (by
    by_cases h1 : c < 1
    · have : okC c = false := by simp [okC]; omega
      simp [br_iff, h1, strL, ifB, this]
    · by_cases h2 : c > 16384
      · have : okC c = false := by simp [okC]; omega
        have h2' : 16384 < c := h2
        have h1' : ¬ c < 1 := h1
        simp [br_iff, h1', h2', strL, ifB, this]
      · have hk : okC c = true := by simp [okC]; omega
        have h1' : ¬ c < 1 := h1
        have h2' : ¬ 16384 < c := h2
        have e0 : IntKind.i64.wrap (c - 1) = c - 1 := w64 (by omega)
        have d1 : IntKind.i64.wrap ((c - 1).tdiv 26) = (c - 1) / 26 := by rw [tdiv_nn (by omega)]; exact w64 (by omega)
        have m1 : IntKind.u8.wrap (65 + IntKind.u8.wrap ((c - 1).tmod 26)) = 65 + (c - 1) % 26 := by
          rw [tmod_nn (by omega), w8 (x := (c - 1) % 26) (by omega)]; exact w8 (by omega)
        have pos : c > 0 := by omega
        simp only [e0, d1, m1, decide_eq_true pos, br_true, decide_eq_false h1', decide_eq_false h2, br_false]
        intro n1
        refine ⟨by decide, by decide, trivial, by decide, ?_⟩
        by_cases a1 : (c - 1) / 26 > 0
        · have e2 : IntKind.i64.wrap ((c - 1) / 26 - 1) = (c - 1) / 26 - 1 := w64 (by omega)
          have d2 : IntKind.i64.wrap (((c - 1) / 26 - 1).tdiv 26) = ((c - 1) / 26 - 1) / 26 := by rw [tdiv_nn (by omega)]; exact w64 (by omega)
          have m2 : IntKind.u8.wrap (65 + IntKind.u8.wrap (((c - 1) / 26 - 1).tmod 26)) = 65 + ((c - 1) / 26 - 1) % 26 := by
            rw [tmod_nn (by omega), w8 (x := ((c - 1) / 26 - 1) % 26) (by omega)]; exact w8 (by omega)
          simp only [e2, d2, m2, decide_eq_true a1, br_true]
          refine ⟨by decide, by decide, trivial, by decide, ?_⟩
          by_cases a2 : ((c - 1) / 26 - 1) / 26 > 0
          · have e3 : IntKind.i64.wrap (((c - 1) / 26 - 1) / 26 - 1) = ((c - 1) / 26 - 1) / 26 - 1 := w64 (by omega)
            have d3 : IntKind.i64.wrap ((((c - 1) / 26 - 1) / 26 - 1).tdiv 26) = 0 := by rw [tdiv_nn (by omega)]; rw [w64 (by omega)]; omega
            have m3 : IntKind.u8.wrap (65 + IntKind.u8.wrap ((((c - 1) / 26 - 1) / 26 - 1).tmod 26)) = 64 + ((c - 1) / 26 - 1) / 26 := by
              rw [tmod_nn (by omega), w8 (x := (((c - 1) / 26 - 1) / 26 - 1) % 26) (by omega), w8 (by omega)]; omega
            simp only [e3, d3, m3, decide_eq_true a2, br_true]
            have hl : ltrs c = [64 + ((c - 1) / 26 - 1) / 26, 65 + ((c - 1) / 26 - 1) % 26, 65 + (c - 1) % 26] := by
              unfold ltrs; rw [if_neg (by omega), if_neg (by omega)]
            simp [br_iff, strL, ifB, hk, hl]
          · have hl : ltrs c = [64 + (c - 1) / 26, 65 + (c - 1) % 26] := by
              unfold ltrs; rw [if_neg (by omega), if_pos (by omega)]
            have e4 : 65 + ((c - 1) / 26 - 1) % 26 = 64 + (c - 1) / 26 := by omega
            simp only [decide_eq_false a2, br_false, e4]
            simp [strL, ifB, hk, hl]
        · have hl : ltrs c = [64 + c] := by
            unfold ltrs; rw [if_pos (by omega)]
          have e4 : 65 + (c - 1) % 26 = 64 + c := by omega
          simp only [decide_eq_false a1, br_false, e4]
          simp [strL, ifB, hk, hl])

def lettersH : List AV → Option AV
  | [.v (.int .i64 c)] => some (.tup [.v (.string (strL c)), .v (.int .i64 (ifB (okC c) 0 2))])
  | _ => none

theorem letters_pok : POk Tryd.prog 39 lettersH := POk.of_lc (letters_lc default).enters (by
  intro args v h
  unfold lettersH at h
  split at h
  · cases h; exact letters_lc _
  · cases h)

theorem byteL {k : Int} (h : 0 ≤ k) : IntKind.u8.wrap (IntKind.i64.wrap (65 + k.tmod 26)) = 65 + k % 26 := by
  rw [tmod_nn h, w64 (by omega)]; exact w8 (by omega)

theorem divL {k : Int} (h : 0 ≤ k ∧ k ≤ 1000000) : IntKind.i64.wrap (k.tdiv 26) = k / 26 := by
  rw [tdiv_nn h.1]; exact w64 (by omega)

theorem eq1 {a b : Int} (h : a = b) : mkI [a] = mkI [b] := by rw [h]
theorem eq2 {a b a' b' : Int} (h : a = a') (h' : b = b') : mkI [a, b] = mkI [a', b'] := by rw [h, h']
theorem eq3 {a b c a' b' c' : Int} (h : a = a') (h' : b = b') (h'' : c = c') : mkI [a, b, c] = mkI [a', b', c'] := by rw [h, h', h'']

theorem tupS {a b : ByteArray} (h : a = b) : AV.tup [AV.v (Value.string a), AV.v (Value.int IntKind.i64 0)] = AV.tup [AV.v (Value.string b), AV.v (Value.int IntKind.i64 0)] := by rw [h]


set_option maxRecDepth 100000 in
theorem rLetters_vc (c : Int) {R : AV → Prop} (h : (br (decide (c < (1 : Int))) (R (AV.tup [AV.v (Value.string (ByteArray.mk #[])), AV.v (Value.int IntKind.i64 (2 : Int))])) (br (decide (c > (16384 : Int))) (R (AV.tup [AV.v (Value.string (ByteArray.mk #[])), AV.v (Value.int IntKind.i64 (2 : Int))])) (br (decide (IntKind.i64.wrap (c - (1 : Int)) ≥ (26 : Int))) (br (decide (IntKind.i64.wrap (IntKind.i64.wrap (c - (1 : Int)) - (26 : Int)) ≥ (676 : Int))) (br (decide (IntKind.i64.wrap (IntKind.i64.wrap (IntKind.i64.wrap (c - (1 : Int)) - (26 : Int)) - (676 : Int)) ≥ (17576 : Int))) (br (decide (IntKind.i64.wrap (IntKind.i64.wrap (IntKind.i64.wrap (IntKind.i64.wrap (c - (1 : Int)) - (26 : Int)) - (676 : Int)) - (17576 : Int)) ≥ (456976 : Int))) False ((26 : Int) ≠ (0 : Int) ∧ ∀ (n1 : Nat), n1 = n1 ∧ (mkI [IntKind.u8.wrap (IntKind.i64.wrap ((65 : Int) + (IntKind.i64.wrap (IntKind.i64.wrap (IntKind.i64.wrap (IntKind.i64.wrap (c - (1 : Int)) - (26 : Int)) - (676 : Int)) - (17576 : Int))).tmod (26 : Int)))]).size + (0 : Nat) ≤ (9223372036854775807 : Nat) ∧ (26 : Int) ≠ (0 : Int) ∧ (26 : Int) ≠ (0 : Int) ∧ ∀ (n2 : Nat), n2 = n2 ∧ (mkI [IntKind.u8.wrap (IntKind.i64.wrap ((65 : Int) + (IntKind.i64.wrap ((IntKind.i64.wrap (IntKind.i64.wrap (IntKind.i64.wrap (IntKind.i64.wrap (c - (1 : Int)) - (26 : Int)) - (676 : Int)) - (17576 : Int))).tdiv (26 : Int))).tmod (26 : Int)))]).size + (catS (mkI [IntKind.u8.wrap (IntKind.i64.wrap ((65 : Int) + (IntKind.i64.wrap (IntKind.i64.wrap (IntKind.i64.wrap (IntKind.i64.wrap (c - (1 : Int)) - (26 : Int)) - (676 : Int)) - (17576 : Int))).tmod (26 : Int)))]) (ByteArray.mk #[])).size ≤ (9223372036854775807 : Nat) ∧ (26 : Int) ≠ (0 : Int) ∧ (26 : Int) ≠ (0 : Int) ∧ ∀ (n3 : Nat), n3 = n3 ∧ (mkI [IntKind.u8.wrap (IntKind.i64.wrap ((65 : Int) + (IntKind.i64.wrap ((IntKind.i64.wrap ((IntKind.i64.wrap (IntKind.i64.wrap (IntKind.i64.wrap (IntKind.i64.wrap (c - (1 : Int)) - (26 : Int)) - (676 : Int)) - (17576 : Int))).tdiv (26 : Int))).tdiv (26 : Int))).tmod (26 : Int)))]).size + (catS (mkI [IntKind.u8.wrap (IntKind.i64.wrap ((65 : Int) + (IntKind.i64.wrap ((IntKind.i64.wrap (IntKind.i64.wrap (IntKind.i64.wrap (IntKind.i64.wrap (c - (1 : Int)) - (26 : Int)) - (676 : Int)) - (17576 : Int))).tdiv (26 : Int))).tmod (26 : Int)))]) (catS (mkI [IntKind.u8.wrap (IntKind.i64.wrap ((65 : Int) + (IntKind.i64.wrap (IntKind.i64.wrap (IntKind.i64.wrap (IntKind.i64.wrap (c - (1 : Int)) - (26 : Int)) - (676 : Int)) - (17576 : Int))).tmod (26 : Int)))]) (ByteArray.mk #[]))).size ≤ (9223372036854775807 : Nat) ∧ (26 : Int) ≠ (0 : Int) ∧ (26 : Int) ≠ (0 : Int) ∧ ∀ (n4 : Nat), n4 = n4 ∧ (mkI [IntKind.u8.wrap (IntKind.i64.wrap ((65 : Int) + (IntKind.i64.wrap ((IntKind.i64.wrap ((IntKind.i64.wrap ((IntKind.i64.wrap (IntKind.i64.wrap (IntKind.i64.wrap (IntKind.i64.wrap (c - (1 : Int)) - (26 : Int)) - (676 : Int)) - (17576 : Int))).tdiv (26 : Int))).tdiv (26 : Int))).tdiv (26 : Int))).tmod (26 : Int)))]).size + (catS (mkI [IntKind.u8.wrap (IntKind.i64.wrap ((65 : Int) + (IntKind.i64.wrap ((IntKind.i64.wrap ((IntKind.i64.wrap (IntKind.i64.wrap (IntKind.i64.wrap (IntKind.i64.wrap (c - (1 : Int)) - (26 : Int)) - (676 : Int)) - (17576 : Int))).tdiv (26 : Int))).tdiv (26 : Int))).tmod (26 : Int)))]) (catS (mkI [IntKind.u8.wrap (IntKind.i64.wrap ((65 : Int) + (IntKind.i64.wrap ((IntKind.i64.wrap (IntKind.i64.wrap (IntKind.i64.wrap (IntKind.i64.wrap (c - (1 : Int)) - (26 : Int)) - (676 : Int)) - (17576 : Int))).tdiv (26 : Int))).tmod (26 : Int)))]) (catS (mkI [IntKind.u8.wrap (IntKind.i64.wrap ((65 : Int) + (IntKind.i64.wrap (IntKind.i64.wrap (IntKind.i64.wrap (IntKind.i64.wrap (c - (1 : Int)) - (26 : Int)) - (676 : Int)) - (17576 : Int))).tmod (26 : Int)))]) (ByteArray.mk #[])))).size ≤ (9223372036854775807 : Nat) ∧ (26 : Int) ≠ (0 : Int) ∧ False)) ((26 : Int) ≠ (0 : Int) ∧ ∀ (n1 : Nat), n1 = n1 ∧ (mkI [IntKind.u8.wrap (IntKind.i64.wrap ((65 : Int) + (IntKind.i64.wrap (IntKind.i64.wrap (IntKind.i64.wrap (c - (1 : Int)) - (26 : Int)) - (676 : Int))).tmod (26 : Int)))]).size + (0 : Nat) ≤ (9223372036854775807 : Nat) ∧ (26 : Int) ≠ (0 : Int) ∧ (26 : Int) ≠ (0 : Int) ∧ ∀ (n2 : Nat), n2 = n2 ∧ (mkI [IntKind.u8.wrap (IntKind.i64.wrap ((65 : Int) + (IntKind.i64.wrap ((IntKind.i64.wrap (IntKind.i64.wrap (IntKind.i64.wrap (c - (1 : Int)) - (26 : Int)) - (676 : Int))).tdiv (26 : Int))).tmod (26 : Int)))]).size + (catS (mkI [IntKind.u8.wrap (IntKind.i64.wrap ((65 : Int) + (IntKind.i64.wrap (IntKind.i64.wrap (IntKind.i64.wrap (c - (1 : Int)) - (26 : Int)) - (676 : Int))).tmod (26 : Int)))]) (ByteArray.mk #[])).size ≤ (9223372036854775807 : Nat) ∧ (26 : Int) ≠ (0 : Int) ∧ (26 : Int) ≠ (0 : Int) ∧ ∀ (n3 : Nat), n3 = n3 ∧ (mkI [IntKind.u8.wrap (IntKind.i64.wrap ((65 : Int) + (IntKind.i64.wrap ((IntKind.i64.wrap ((IntKind.i64.wrap (IntKind.i64.wrap (IntKind.i64.wrap (c - (1 : Int)) - (26 : Int)) - (676 : Int))).tdiv (26 : Int))).tdiv (26 : Int))).tmod (26 : Int)))]).size + (catS (mkI [IntKind.u8.wrap (IntKind.i64.wrap ((65 : Int) + (IntKind.i64.wrap ((IntKind.i64.wrap (IntKind.i64.wrap (IntKind.i64.wrap (c - (1 : Int)) - (26 : Int)) - (676 : Int))).tdiv (26 : Int))).tmod (26 : Int)))]) (catS (mkI [IntKind.u8.wrap (IntKind.i64.wrap ((65 : Int) + (IntKind.i64.wrap (IntKind.i64.wrap (IntKind.i64.wrap (c - (1 : Int)) - (26 : Int)) - (676 : Int))).tmod (26 : Int)))]) (ByteArray.mk #[]))).size ≤ (9223372036854775807 : Nat) ∧ (26 : Int) ≠ (0 : Int) ∧ R (AV.tup [AV.v (Value.string (catS (mkI [IntKind.u8.wrap (IntKind.i64.wrap ((65 : Int) + (IntKind.i64.wrap ((IntKind.i64.wrap ((IntKind.i64.wrap (IntKind.i64.wrap (IntKind.i64.wrap (c - (1 : Int)) - (26 : Int)) - (676 : Int))).tdiv (26 : Int))).tdiv (26 : Int))).tmod (26 : Int)))]) (catS (mkI [IntKind.u8.wrap (IntKind.i64.wrap ((65 : Int) + (IntKind.i64.wrap ((IntKind.i64.wrap (IntKind.i64.wrap (IntKind.i64.wrap (c - (1 : Int)) - (26 : Int)) - (676 : Int))).tdiv (26 : Int))).tmod (26 : Int)))]) (catS (mkI [IntKind.u8.wrap (IntKind.i64.wrap ((65 : Int) + (IntKind.i64.wrap (IntKind.i64.wrap (IntKind.i64.wrap (c - (1 : Int)) - (26 : Int)) - (676 : Int))).tmod (26 : Int)))]) (ByteArray.mk #[]))))), AV.v (Value.int IntKind.i64 (0 : Int))]))) ((26 : Int) ≠ (0 : Int) ∧ ∀ (n1 : Nat), n1 = n1 ∧ (mkI [IntKind.u8.wrap (IntKind.i64.wrap ((65 : Int) + (IntKind.i64.wrap (IntKind.i64.wrap (c - (1 : Int)) - (26 : Int))).tmod (26 : Int)))]).size + (0 : Nat) ≤ (9223372036854775807 : Nat) ∧ (26 : Int) ≠ (0 : Int) ∧ (26 : Int) ≠ (0 : Int) ∧ ∀ (n2 : Nat), n2 = n2 ∧ (mkI [IntKind.u8.wrap (IntKind.i64.wrap ((65 : Int) + (IntKind.i64.wrap ((IntKind.i64.wrap (IntKind.i64.wrap (c - (1 : Int)) - (26 : Int))).tdiv (26 : Int))).tmod (26 : Int)))]).size + (catS (mkI [IntKind.u8.wrap (IntKind.i64.wrap ((65 : Int) + (IntKind.i64.wrap (IntKind.i64.wrap (c - (1 : Int)) - (26 : Int))).tmod (26 : Int)))]) (ByteArray.mk #[])).size ≤ (9223372036854775807 : Nat) ∧ (26 : Int) ≠ (0 : Int) ∧ R (AV.tup [AV.v (Value.string (catS (mkI [IntKind.u8.wrap (IntKind.i64.wrap ((65 : Int) + (IntKind.i64.wrap ((IntKind.i64.wrap (IntKind.i64.wrap (c - (1 : Int)) - (26 : Int))).tdiv (26 : Int))).tmod (26 : Int)))]) (catS (mkI [IntKind.u8.wrap (IntKind.i64.wrap ((65 : Int) + (IntKind.i64.wrap (IntKind.i64.wrap (c - (1 : Int)) - (26 : Int))).tmod (26 : Int)))]) (ByteArray.mk #[])))), AV.v (Value.int IntKind.i64 (0 : Int))]))) ((26 : Int) ≠ (0 : Int) ∧ ∀ (n1 : Nat), n1 = n1 ∧ (mkI [IntKind.u8.wrap (IntKind.i64.wrap ((65 : Int) + (IntKind.i64.wrap (c - (1 : Int))).tmod (26 : Int)))]).size + (0 : Nat) ≤ (9223372036854775807 : Nat) ∧ (26 : Int) ≠ (0 : Int) ∧ R (AV.tup [AV.v (Value.string (catS (mkI [IntKind.u8.wrap (IntKind.i64.wrap ((65 : Int) + (IntKind.i64.wrap (c - (1 : Int))).tmod (26 : Int)))]) (ByteArray.mk #[]))), AV.v (Value.int IntKind.i64 (0 : Int))])))))) : LC Tryd.prog 34 [.v (.int .i64 c)] [] (fun z_ _ => R z_) :=
  lc_of_exec (tbl := []) tab_ok trivial mixed (fun _ _ _ => .unroll 4) 2 _ Tryd.func34 rfl Tryd.ntmps34 (by decide) (by kernel_rfl) (Nat.le_of_ble_eq_true rfl) (@Eq.mpr (execN tab [] (fun _ _ _ => .unroll 4) 2 Tryd.f34.ntmps [] none 0 (body Tryd.f34) (argsT [.v (.int .i64 c)] 0) [] (post Tryd.f34 tab (retK (fun z_ _ => R z_)))) _ (by kernel_rfl) h)


theorem rLetters_lc (c : Int) : LC Tryd.prog 34 [.v (.int .i64 c)] [] (fun z _ => z = .tup [.v (.string (strL c)), .v (.int .i64 (ifB (okC c) 0 2))]) :=
  rLetters_vc c (by
    by_cases h1 : c < 1
    · have : okC c = false := by simp [okC]; omega
      simp [br_iff, h1, strL, ifB, this]
    · by_cases h2 : c > 16384
      · have : okC c = false := by simp [okC]; omega
        have h2' : 16384 < c := h2
        have h1' : ¬ c < 1 := h1
        simp [br_iff, h1', h2', strL, ifB, this]
      · have hk : okC c = true := by simp [okC]; omega
        have h1' : ¬ c < 1 := h1
        have e0 : IntKind.i64.wrap (c - 1) = c - 1 := w64 (by omega)
        have e1 : IntKind.i64.wrap (c - 1 - 26) = c - 1 - 26 := w64 (by omega)
        have e2 : IntKind.i64.wrap (c - 1 - 26 - 676) = c - 1 - 26 - 676 := w64 (by omega)
        have a3 : ¬ (c - 1 - 26 - 676 ≥ 17576) := by omega
        have hr : strL c = mkI (ltrs c) := by simp [strL, hk]
        have he : ifB (okC c) 0 2 = 0 := by simp [ifB, hk]
        rw [hr, he]
        simp only [e0, e1, e2, decide_eq_false h1', decide_eq_false h2, br_false, decide_eq_false a3]
        by_cases a1 : c - 1 ≥ 26
        · by_cases a2 : c - 1 - 26 ≥ 676
          · have f1 := divL (k := c - 1 - 26 - 676) (by omega)
            have f2 := divL (k := (c - 1 - 26 - 676) / 26) (by omega)
            have b1 := byteL (k := c - 1 - 26 - 676) (by omega)
            have b2 := byteL (k := (c - 1 - 26 - 676) / 26) (by omega)
            have b3 := byteL (k := (c - 1 - 26 - 676) / 26 / 26) (by omega)
            simp only [decide_eq_true a1, decide_eq_true a2, br_true, f1, f2, b1, b2, b3, catS_nil, catS_mkI, size_mkI]
            refine ⟨by decide, fun n1 => ⟨trivial, by simp, by decide, by decide, fun n2 => ⟨trivial, by simp, by decide, by decide, fun n3 => ⟨trivial, by simp, by decide, ?_⟩⟩⟩⟩
            refine tupS ?_
            unfold ltrs
            rw [if_neg (by omega), if_neg (by omega)]
            exact eq3 (by omega) (by omega) (by omega)
          · have f1 := divL (k := c - 1 - 26) (by omega)
            have b1 := byteL (k := c - 1 - 26) (by omega)
            have b2 := byteL (k := (c - 1 - 26) / 26) (by omega)
            simp only [decide_eq_true a1, decide_eq_false a2, br_true, br_false, f1, b1, b2, catS_nil, catS_mkI, size_mkI]
            refine ⟨by decide, fun n1 => ⟨trivial, by simp, by decide, by decide, fun n2 => ⟨trivial, by simp, by decide, ?_⟩⟩⟩
            refine tupS ?_
            unfold ltrs
            rw [if_neg (by omega), if_pos (by omega)]
            exact eq2 (by omega) (by omega)
        · have b1 := byteL (k := c - 1) (by omega)
          simp only [decide_eq_false a1, br_false, b1, catS_nil, size_mkI]
          refine ⟨by decide, fun n1 => ⟨trivial, by simp, by decide, ?_⟩⟩
          refine tupS ?_
          unfold ltrs
          rw [if_pos (by omega)]
          exact eq1 (by omega))

theorem rLetters_pok : POk Tryd.prog 34 lettersH := POk.of_lc (rLetters_lc default).enters (by
  intro args v h
  unfold lettersH at h
  split at h
  · cases h; exact rLetters_lc _
  · cases h)

end Go.Proofs.YthkegefjmcipmaaDoor

