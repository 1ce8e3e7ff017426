/- Undo: the law UndoBoth. -/
import Derived.Test.YtkjnkepdhbpnbaaAE
namespace Go.Eng
open Go.Sp

theorem HS.marksL_len (s : HS) : s.marksL.length = s.es.length := by
  rw [HS.marksL, sortNm_len, List.length_map]

theorem brD {p : Prop} [Decidable p] {A B : Prop} (h : p) (ha : A) : br (decide p) A B := by
  rw [decide_eq_true h]; exact ha

theorem HS.few_mark1 {s : HS} {nm : ByteArray} (h : s.es.length < 16) : (s.mark1 nm).es.length ≤ 16 := by
  show (s.es ++ [_]).length ≤ 16
  rw [List.length_append]
  have : ([((nm, (s.at_ : Int)), s.clock)] : MK).length = 1 := rfl
  omega
theorem HS.few_remark {s : HS} {nm : ByteArray} {b : Nat} (h : s.es.length ≤ 16) : (s.remark nm b).es.length ≤ 16 := by
  show (setE s.es b _).length ≤ 16
  unfold setE
  rw [List.length_map]; exact h
theorem HS.few_push {s : HS} {x : Int} (h : s.es.length ≤ 16) : (s.push x).es.length ≤ 16 := Nat.le_trans (kfA_len _ _ _) h
end Go.Eng
namespace Go.Proofs.Ytkjnkepdhbpnbaa
open Go Go.Eng Go.Sp
set_option linter.unusedVariables false
set_option linter.unusedSimpArgs false

set_option maxRecDepth 20000 in
set_option maxHeartbeats 4000000 in
theorem both_law (m : Int) (a : Option Addr) (n o len cap : Nat) (gk gx : Nat → Int) (gn : Nat → ByteArray) (S : List Nat) (b : Bool) (hcm : len ≤ 9223372036854775807) :
    LC Try.prog 6 [.v (.int .i64 m), .os 0 a n o 0 3 len cap, .v (.bool b)] [⟨n, .lst o len [.ints .i64 gk, .ints .i64 gx, .strs gn] S none, false⟩] (fun z _ => z = .v (.bool true)) :=
  both_vc m a n o len cap gk gx gn S b (by
    intro n1 S1
    refine ⟨⟨(HS.new n1 m, S1, 0), ⟨HS.new_ok n1 m, rfl, Nat.zero_le _⟩, ⟨rfl, rfl, rfl, trivial⟩, LeH.refl _⟩, ?_⟩
    rintro ⟨s, S0, i⟩ ⟨ok, e1, few⟩
    replace ok : s.ok := ok
    replace e1 : s.hn = n1 := e1
    replace few : s.es.length ≤ 16 := few
    have le := ok.le
    have lm := ok.lm
    have m1 := ok.m1
    have dl : s.at_ ≤ 1048576 := by omega
    have ul : s.len - s.at_ ≤ 1048576 := by omega
    have ml : s.es.length ≤ 1048576 := by omega
    simp (config := {decide := true}) only [true_and, and_true, br_iff, AV.den, Value.int.injEq, AV.v.injEq, Value.bool.injEq, decide_eq_true_eq, decide_eq_false_iff_not, bne_iff_ne, beq_iff_eq, bne_eq_false_iff_eq, beq_eq_false_iff_ne, ne_eq, Bool.not_eq_true, Bool.false_eq, Bool.true_eq, Int.toNat_natCast, Nat.zero_add]
    have fin : ∀ (s' : HS) (S' : List Nat) (G : HH), s'.ok → s'.hn = n1 → s'.es.length ≤ 16 → i < len → ∃ (x' : HS × List Nat × Nat), (x'.fst.ok ∧ x'.fst.hn = n1 ∧ List.length x'.fst.es ≤ 16) ∧ len - x'.snd.snd < len - i ∧ IntKind.i64.wrap ((i : Int) + 1) = (x'.snd.snd : Int) ∧ LeH ([Blk.mk n (Cont.lst o len [Col.ints IntKind.i64 gk, Col.ints IntKind.i64 gx, Col.strs gn] S none) false, hH s' S'] ++ G) [Blk.mk n (Cont.lst o len [Col.ints IntKind.i64 gk, Col.ints IntKind.i64 gx, Col.strs gn] S none) false, hH x'.1 x'.2.1] := fun s' S' G g1 g2 g3 hi =>
      ⟨(s', S', i + 1), ⟨g1, g2, g3⟩, by show len - (i + 1) < len - i; omega, by rw [w64 (by omega)]; rfl, leAt [0, 1] (by decide) (LeBs.refl _)⟩
    refine ⟨fun hi => ?_, fun _ => ⟨fun _ => trivial, fun h300 => ?_⟩⟩
    · have hi : i < len := by omega
      refine ⟨⟨by omega, by omega⟩, hi, fun _ => ⟨s, _, e1.symm, rfl, ok, fun S' => ⟨fun _ => fin s S' [] ok e1 few hi, fun _ => fin s.back S' [] (HS.back_ok ok) e1 few hi⟩⟩, fun _ => ⟨fun _ => ⟨s, _, e1.symm, rfl, ok, fun S' => ⟨fun _ => fin s S' [] ok e1 few hi, fun h => fin s.again S' [] (HS.again_ok ok h) e1 few hi⟩⟩, fun _ => ⟨fun _ => ⟨⟨by omega, by omega⟩, hi, s, _, e1.symm, rfl, ok, fun S' => ⟨fun _ => fin s S' [] ok e1 few hi, fun _ => ⟨fun v b hb => fin (s.remark _ b) S' [] (HS.remark_ok ok hb) e1 (HS.few_remark few) hi, fun hn => ⟨fun _ => fin s S' [] ok e1 few hi, fun hf => fin (s.mark1 _) S' [] (HS.mark1_ok ok hn) e1 (HS.few_mark1 hf) hi⟩⟩⟩⟩, fun _ => ⟨fun _ => ⟨⟨by omega, by omega⟩, hi, s, _, e1.symm, rfl, ok, fun S' => ⟨fun _ => fin s S' [] ok e1 few hi, fun v b hb => ⟨fun _ => fin s S' [] ok e1 few hi, fun h _ _ _ _ _ => fin (s.goTo v) S' [_] (HS.goTo_ok ok (by omega)) e1 few hi, fun h h2 _ _ _ _ _ => fin (s.goTo v) S' [_] (HS.goTo_ok ok h2) e1 few hi⟩⟩⟩, fun _ => ⟨⟨by omega, by omega⟩, hi, s, _, e1.symm, rfl, ok, fun S' => fin (s.push _) S' [] (HS.push_ok ok _) e1 (HS.few_push few) hi⟩⟩⟩⟩⟩
    · refine ⟨s, _, e1.symm, rfl, ok, fun S2 a2 n2 c2 T2 => ⟨s, _, e1.symm, rfl, ok, fun S3 a3 n3 c3 T3 => ⟨s, _, e1.symm, rfl, ok, few, fun S4 a4 n4 c4 T4 => ⟨fun hb => ?A, fun hb => ?B⟩⟩⟩⟩
      case A =>
        refine ⟨s, _, e1.symm, rfl, ok, fun S5 => ⟨fun h => ?_, fun h => ⟨s.again, _, e1.symm, rfl, HS.again_ok ok h, fun S6 => ⟨fun h2 => ?_, fun h2 => ⟨fun h3 => ?_, fun h3 => ?_⟩⟩⟩⟩⟩
        · exact ⟨s, _, e1.symm, rfl, ok, fun S5 a5 n5 c5 T5 => ⟨(s).doneL, s.doneL, T5, _, true, true, rfl, rfl, rfl, rfl, (by show ([5, 2] : List Nat).Nodup; decide), by rw [HS.doneL_len]; first | exact dl | (rw [eb]; exact dl), ⟨fun _ => ⟨s, _, e1.symm, rfl, ok, fun S6 a6 n6 c6 T6 => ⟨(s).undoneL, s.undoneL, T6, _, true, true, rfl, rfl, rfl, rfl, (by show ([6, 3] : List Nat).Nodup; decide), by rw [HS.undoneL_len]; first | exact ul | (rw [eb]; exact ul), ⟨fun _ => ⟨s, _, e1.symm, rfl, ok, few, fun S7 a7 n7 c7 T7 => ⟨(s).marksL, s.marksL, T7, _, true, true, rfl, rfl, rfl, rfl, (by show ([7, 4] : List Nat).Nodup; decide), by rw [HS.marksL_len]; exact ml, ⟨fun _ => trivial, fun h => absurd rfl h⟩⟩⟩, fun h => absurd rfl h⟩⟩⟩, fun h => absurd rfl h⟩⟩⟩
        · exact absurd h2 (Nat.succ_ne_zero _)
        · exact absurd rfl h3
        · exact ⟨s, _, e1.symm, rfl, ok, fun S5 a5 n5 c5 T5 => ⟨(s).doneL, s.doneL, T5, _, true, true, rfl, rfl, rfl, rfl, (by show ([5, 2] : List Nat).Nodup; decide), by rw [HS.doneL_len]; first | exact dl | (rw [eb]; exact dl), ⟨fun _ => ⟨s, _, e1.symm, rfl, ok, fun S6 a6 n6 c6 T6 => ⟨(s).undoneL, s.undoneL, T6, _, true, true, rfl, rfl, rfl, rfl, (by show ([6, 3] : List Nat).Nodup; decide), by rw [HS.undoneL_len]; first | exact ul | (rw [eb]; exact ul), ⟨fun _ => ⟨s, _, e1.symm, rfl, ok, few, fun S7 a7 n7 c7 T7 => ⟨(s).marksL, s.marksL, T7, _, true, true, rfl, rfl, rfl, rfl, (by show ([7, 4] : List Nat).Nodup; decide), by rw [HS.marksL_len]; exact ml, ⟨fun _ => trivial, fun h => absurd rfl h⟩⟩⟩, fun h => absurd rfl h⟩⟩⟩, fun h => absurd rfl h⟩⟩⟩
      case B =>
        refine ⟨s, _, e1.symm, rfl, ok, fun S5 => ⟨fun h => ?_, fun h => ⟨s.back, _, e1.symm, rfl, HS.back_ok ok, fun S6 => ⟨fun h2 => ?_, fun h2 => ⟨fun h3 => ?_, fun h3 => ?_⟩⟩⟩⟩⟩
        · exact ⟨s, _, e1.symm, rfl, ok, fun S5 a5 n5 c5 T5 => ⟨(s).doneL, s.doneL, T5, _, true, true, rfl, rfl, rfl, rfl, (by show ([5, 2] : List Nat).Nodup; decide), by rw [HS.doneL_len]; first | exact dl | (rw [eb]; exact dl), ⟨fun _ => ⟨s, _, e1.symm, rfl, ok, fun S6 a6 n6 c6 T6 => ⟨(s).undoneL, s.undoneL, T6, _, true, true, rfl, rfl, rfl, rfl, (by show ([6, 3] : List Nat).Nodup; decide), by rw [HS.undoneL_len]; first | exact ul | (rw [eb]; exact ul), ⟨fun _ => ⟨s, _, e1.symm, rfl, ok, few, fun S7 a7 n7 c7 T7 => ⟨(s).marksL, s.marksL, T7, _, true, true, rfl, rfl, rfl, rfl, (by show ([7, 4] : List Nat).Nodup; decide), by rw [HS.marksL_len]; exact ml, ⟨fun _ => trivial, fun h => absurd rfl h⟩⟩⟩, fun h => absurd rfl h⟩⟩⟩, fun h => absurd rfl h⟩⟩⟩
        · exact absurd h2 (by show ¬ s.at_ - 1 = s.len; omega)
        · exact absurd rfl h3
        · have eb : s.back.again = s := by
            show ({ s.back with at_ := s.at_ - 1 + 1 } : HS) = s
            rw [Nat.sub_add_cancel h]; rfl
          have okb : s.back.again.ok := by rw [eb]; exact ok
          exact ⟨s.back.again, _, e1.symm, rfl, okb, fun S5 a5 n5 c5 T5 => ⟨(s.back.again).doneL, s.doneL, T5, _, true, true, rfl, rfl, rfl, rfl, (by show ([5, 2] : List Nat).Nodup; decide), by rw [HS.doneL_len]; first | exact dl | (rw [eb]; exact dl), ⟨fun _ => ⟨s.back.again, _, e1.symm, rfl, okb, fun S6 a6 n6 c6 T6 => ⟨(s.back.again).undoneL, s.undoneL, T6, _, true, true, rfl, rfl, rfl, rfl, (by show ([6, 3] : List Nat).Nodup; decide), by rw [HS.undoneL_len]; first | exact ul | (rw [eb]; exact ul), ⟨fun _ => ⟨s.back.again, _, e1.symm, rfl, okb, few, fun S7 a7 n7 c7 T7 => ⟨(s.back.again).marksL, s.marksL, T7, _, true, true, rfl, rfl, rfl, rfl, (by show ([7, 4] : List Nat).Nodup; decide), by rw [HS.marksL_len]; exact ml, ⟨fun _ => trivial, fun h => absurd (by rw [eb]) h⟩⟩⟩, fun h => absurd (by rw [eb]) h⟩⟩⟩, fun h => absurd (by rw [eb]) h⟩⟩⟩)
end Go.Proofs.Ytkjnkepdhbpnbaa

