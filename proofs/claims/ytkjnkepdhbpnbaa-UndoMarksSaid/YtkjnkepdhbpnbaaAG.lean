/- Undo: the law UndoMarks. -/
import Derived.Test.YtkjnkepdhbpnbaaAF
namespace Go.Eng
open Go.Sp

theorem hH_inj {s t : HS} {S T : List Nat} (h : some (hH s S) = some (hH t T)) : s = t := by
  have h := Option.some.inj h
  injection h with h1 h2 h3
  injection h2 with _ h2
  exact (Prod.mk.inj h2).1

theorem lS_inj {n n' : Nat} {l l' : List ByteArray} {S S' : List Nat} {w w' : Bool} (h : some (lS n l S w) = some (lS n' l' S' w')) : l = l' := by
  have h := Option.some.inj h
  injection h with h1 h2 h3
  injection h2 with _ h2 h3 _ _
  injection h3 with h3 _
  injection h3 with h3
  exact listS_eq h2 fun i _ => congrFun h3 i

theorem count_step {l : List ByteArray} {nm : ByteArray} {i : Nat} (h : i < l.length) : (l.take (i + 1)).countP (fun y => decide (y = nm)) = (l.take i).countP (fun y => decide (y = nm)) + (if atS l i = nm then 1 else 0) := by
  rw [List.take_add_one, List.countP_append, List.getElem?_eq_getElem h, atS_get h]
  by_cases e : l[i] = nm
  · simp [e]
  · simp [e]

theorem count_one {nm : ByteArray} : ∀ {l : List ByteArray}, l.Nodup → nm ∈ l → l.countP (fun y => decide (y = nm)) = 1
  | [], _, h => by cases h
  | x :: l, hn, h => by
    rw [List.nodup_cons] at hn
    rw [List.countP_cons]
    by_cases e : x = nm
    · subst e
      have : l.countP (fun y => decide (y = x)) = 0 := List.countP_eq_zero.2 fun y hy => by
        have : ¬ y = x := fun e => hn.1 (e ▸ hy)
        simp [this]
      simp [this]
    · have h : nm ∈ l := by
        rcases List.mem_cons.1 h with h | h
        · exact absurd h.symm e
        · exact h
      rw [count_one hn.2 h]
      simp [e]

theorem marks_count {s : HS} (hk : keysOk s.es) {nm : ByteArray} {v : Int} {b : Nat} (h : ((nm, v), b) ∈ s.es) : s.marksL.countP (fun y => decide (y = nm)) = 1 := by
  rw [HS.marksL, (sortNm_perm _ _).countP_eq]
  have nd : ∀ es : MK, keysOk es → (es.map fun e => e.1.1).Nodup := by
    intro es
    induction es with
    | nil => intro _; exact List.nodup_nil
    | cons e es ih =>
      intro hk
      have hb := hk.born
      rw [List.map_cons, List.nodup_cons] at hb
      rw [List.map_cons, List.nodup_cons]
      refine ⟨fun hm => ?_, ih ⟨fun a b a' b' h1 h2 => hk.key a b a' b' (List.mem_cons_of_mem _ h1) (List.mem_cons_of_mem _ h2), hb.2⟩⟩
      obtain ⟨e', he, h1⟩ := List.mem_map.1 hm
      have := hk.key e'.1 e'.2 e.1 e.2 (List.mem_cons_of_mem _ he) (List.mem_cons_self ..) h1
      exact hb.1 (List.mem_map.2 ⟨e', he, this⟩)
  exact count_one (nd _ hk) (List.mem_map.2 ⟨_, h, rfl⟩)

theorem mark_one {es : MK} (hk : keysOk es) {nm : ByteArray} {v v' : Int} {b b' : Nat} (h : ((nm, v), b) ∈ es) (h' : ((nm, v'), b') ∈ es) : v = v' := by
  have hb := hk.key _ _ _ _ h h' rfl
  subst hb
  have := born_one hk.born h h'
  exact (Prod.mk.inj this).2
end Go.Eng
namespace Go.Proofs.Ytkjnkepdhbpnbaa
open Go Go.Eng Go.Sp
set_option linter.unusedVariables false
set_option linter.unusedSimpArgs false

set_option maxRecDepth 20000 in
set_option maxHeartbeats 8000000 in
theorem marks_law (m : Int) (a : Option Addr) (n o len cap : Nat) (gk gx : Nat → Int) (gn : Nat → ByteArray) (S : List Nat) (nm : ByteArray) (back again : Int) (hcm : len ≤ 9223372036854775807) :
    LC Try.prog 7 [.v (.int .i64 m), .os 0 a n o 0 3 len cap, .v (.string nm), .v (.int .i64 back), .v (.int .i64 again)] [⟨n, .lst o len [.ints .i64 gk, .ints .i64 gx, .strs gn] S none, false⟩] (fun z _ => z = .v (.bool true)) :=
  marks_vc m a n o len cap gk gx gn S nm back again (by
    intro n1 S1
    refine ⟨⟨(HS.new n1 m, S1, 0), ⟨HS.new_ok n1 m, rfl, Nat.zero_le _⟩, ⟨rfl, rfl, rfl, trivial⟩, LeH.refl _⟩, ?_⟩
    rintro ⟨s, S0, i⟩ ⟨ok, e1, few⟩
    replace ok : s.ok := ok
    replace e1 : s.hn = n1 := e1
    replace few : s.es.length ≤ 16 := few
    have le := ok.le
    have lm := ok.lm
    have m1 := ok.m1
    simp (config := {decide := true}) only [true_and, and_true, br_iff, AV.den, Value.int.injEq, AV.v.injEq, Value.bool.injEq, decide_eq_true_eq, decide_eq_false_iff_not, bne_iff_ne, beq_iff_eq, bne_eq_false_iff_eq, beq_eq_false_iff_ne, ne_eq, Bool.not_eq_true, Bool.false_eq, Bool.true_eq, Int.toNat_natCast, Nat.zero_add, eqT, eqF]
    have fin : ∀ (s' : HS) (S' : List Nat) (G : HH), s'.ok → s'.hn = n1 → s'.es.length ≤ 16 → i < len → ∃ (x' : HS × List Nat × Nat), (x'.fst.ok ∧ x'.fst.hn = n1 ∧ List.length x'.fst.es ≤ 16) ∧ len - x'.snd.snd < len - i ∧ IntKind.i64.wrap ((i : Int) + 1) = (x'.snd.snd : Int) ∧ LeH ([Blk.mk n (Cont.lst o len [Col.ints IntKind.i64 gk, Col.ints IntKind.i64 gx, Col.strs gn] S none) false, hH s' S'] ++ G) [Blk.mk n (Cont.lst o len [Col.ints IntKind.i64 gk, Col.ints IntKind.i64 gx, Col.strs gn] S none) false, hH x'.1 x'.2.1] := fun s' S' G g1 g2 g3 hi =>
      ⟨(s', S', i + 1), ⟨g1, g2, g3⟩, by show len - (i + 1) < len - i; omega, by rw [w64 (by omega)]; rfl, leAt [0, 1] (by decide) (LeBs.refl _)⟩
    refine ⟨fun hi => ?_, fun _ => ⟨fun _ => trivial, fun h300 => ⟨fun _ => trivial, fun b0 => ⟨fun _ => trivial, fun a0 => ⟨fun _ => trivial, fun b3 => ⟨fun _ => trivial, fun a3 => ?_⟩⟩⟩⟩⟩⟩
    · have hi : i < len := by omega
      refine ⟨⟨by omega, by omega⟩, hi, fun _ => ⟨s, _, e1.symm, rfl, ok, fun S' => ⟨fun _ => fin s S' [] ok e1 few hi, fun _ => fin s.back S' [] (HS.back_ok ok) e1 few hi⟩⟩, fun _ => ⟨fun _ => ⟨s, _, e1.symm, rfl, ok, fun S' => ⟨fun _ => fin s S' [] ok e1 few hi, fun h => fin s.again S' [] (HS.again_ok ok h) e1 few hi⟩⟩, fun _ => ⟨fun _ => ⟨⟨by omega, by omega⟩, hi, s, _, e1.symm, rfl, ok, fun S' => ⟨fun _ => fin s S' [] ok e1 few hi, fun _ => ⟨fun v b hb => fin (s.remark _ b) S' [] (HS.remark_ok ok hb) e1 (HS.few_remark few) hi, fun hn => ⟨fun _ => fin s S' [] ok e1 few hi, fun hf => fin (s.mark1 _) S' [] (HS.mark1_ok ok hn) e1 (HS.few_mark1 hf) hi⟩⟩⟩⟩, fun _ => ⟨fun _ => ⟨⟨by omega, by omega⟩, hi, s, _, e1.symm, rfl, ok, fun S' => ⟨fun _ => fin s S' [] ok e1 few hi, fun v b hb => ⟨fun _ => fin s S' [] ok e1 few hi, fun h _ _ _ _ _ => fin (s.goTo v) S' [_] (HS.goTo_ok ok (by omega)) e1 few hi, fun h h2 _ _ _ _ _ => fin (s.goTo v) S' [_] (HS.goTo_ok ok h2) e1 few hi⟩⟩⟩, fun _ => ⟨⟨by omega, by omega⟩, hi, s, _, e1.symm, rfl, ok, fun S' => fin (s.push _) S' [] (HS.push_ok ok _) e1 (HS.few_push few) hi⟩⟩⟩⟩⟩
    · refine ⟨s, _, e1.symm, rfl, ok, fun S1 => ⟨fun _ => trivial, fun hnm => ⟨fun v b hb => ?A, fun hno => ⟨fun _ => trivial, fun hlt => ?B⟩⟩⟩⟩
      case A =>
        have oku := HS.remark_ok ok hb
        have fewu : (s.remark nm b).es.length ≤ 16 := HS.few_remark few
        have hin : ∃ c, ((nm, ((s.remark nm b).at_ : Int)), c) ∈ (s.remark nm b).es := ⟨b, List.mem_map.2 ⟨_, hb, if_pos rfl⟩⟩
        have e1u : n1 = (s.remark nm b).hn := e1.symm
        obtain ⟨cb, hin⟩ := hin
        generalize s.remark nm b = u at oku fewu hin e1u ⊢
        have leu := oku.le
        have lmu := oku.lm
        have m1u := oku.m1
        refine ⟨u, _, e1u, rfl, oku, fun S2 a2 n2 c2 T2 => ⟨u, _, e1u, rfl, oku, fun S3 a3 n3 c3 T3 => ⟨⟨(u, S3, 0), ⟨u, S3, u.at_, rfl, oku.le, rfl⟩, rfl, LeH.refl _⟩, ?_⟩⟩⟩
        rintro ⟨t, St, i⟩ ⟨s0, S0, p, h0, hp, ht⟩
        obtain rfl : u = s0 := hH_inj h0
        obtain rfl : t = u.goTo p := ht
        refine ⟨fun hi => ⟨u.goTo p, _, e1u, rfl, HS.goTo_ok oku hp, fun S' => ⟨fun h => ⟨(u.goTo p, S', i + 1), ⟨u, _, p, rfl, hp, rfl⟩, ?_, ?_, LeH.refl _⟩, fun h => ⟨(u.goTo (p - 1), S', i + 1), ⟨u, _, p - 1, rfl, by omega, rfl⟩, ?_, ?_, LeH.refl _⟩⟩⟩, fun _ => ⟨⟨(u.goTo p, St, 0), ⟨u.goTo p, St, p, rfl, hp, rfl⟩, rfl, LeH.refl _⟩, ?_⟩⟩
        · show back.toNat - (i + 1) < back.toNat - i
          have : (i : Int) < back := hi
          omega
        · have : (i : Int) < back := hi
          show IntKind.i64.wrap ((i : Int) + 1) = ((i + 1 : Nat) : Int)
          rw [w64 (by omega)]; rfl
        · show back.toNat - (i + 1) < back.toNat - i
          have : (i : Int) < back := hi
          omega
        · have : (i : Int) < back := hi
          show IntKind.i64.wrap ((i : Int) + 1) = ((i + 1 : Nat) : Int)
          rw [w64 (by omega)]; rfl
        rintro ⟨t, Sv, i⟩ ⟨s0, S0, q, h0, hq, ht⟩
        obtain rfl : u.goTo p = s0 := hH_inj h0
        obtain rfl : t = u.goTo q := ht
        replace hq : q ≤ u.len := hq
        refine ⟨fun hi => ⟨u.goTo q, _, e1u, rfl, HS.goTo_ok oku hq, fun S' => ⟨fun h => ⟨(u.goTo q, S', i + 1), ⟨u.goTo p, _, q, rfl, hq, rfl⟩, ?_, ?_, LeH.refl _⟩, fun h => ⟨(u.goTo (q + 1), S', i + 1), ⟨u.goTo p, _, q + 1, rfl, h, rfl⟩, ?_, ?_, LeH.refl _⟩⟩⟩, fun _ => ?_⟩
        · show again.toNat - (i + 1) < again.toNat - i
          have : (i : Int) < again := hi
          omega
        · have : (i : Int) < again := hi
          show IntKind.i64.wrap ((i : Int) + 1) = ((i + 1 : Nat) : Int)
          rw [w64 (by omega)]; rfl
        · show again.toNat - (i + 1) < again.toNat - i
          have : (i : Int) < again := hi
          omega
        · have : (i : Int) < again := hi
          show IntKind.i64.wrap ((i : Int) + 1) = ((i + 1 : Nat) : Int)
          rw [w64 (by omega)]; rfl
        have okq := HS.goTo_ok oku hq
        have hml : (u.goTo q).marksL.length ≤ 16 := by rw [HS.marksL_len]; exact fewu
        have hcount : (u.goTo q).marksL.countP (fun y => decide (y = nm)) = 1 := marks_count okq.keys hin
        refine ⟨u.goTo q, _, e1u, rfl, okq, fewu, fun S5 a5 n5 c5 T5 => ⟨⟨(0, 0), ⟨n5, (u.goTo q).marksL, T5, true, rfl, Nat.zero_le _, by simp⟩, ⟨rfl, rfl⟩, LeH.refl _⟩, ?_⟩⟩
        rintro ⟨ct, i⟩ ⟨n', l, Sx, w, h0, hil, hc⟩
        obtain rfl : (u.goTo q).marksL = l := lS_inj h0
        replace hil : i ≤ (u.goTo q).marksL.length := hil
        replace hc : ct = ((u.goTo q).marksL.take i).countP (fun y => decide (y = nm)) := hc
        have hct : ct ≤ i := by rw [hc]; exact Nat.le_trans List.countP_le_length (by rw [List.length_take]; omega)
        refine ⟨fun hi => ?_, fun hi => ?_⟩
        · have hi : i < (u.goTo q).marksL.length := by have : (i : Int) < ((u.goTo q).marksL.length : Int) := hi; omega
          have hstep := count_step (nm := nm) hi
          refine ⟨⟨by omega, by show (i : Int) < ((u.goTo q).marksL.length : Int); omega⟩, hi, fun he => ⟨(ct + 1, i + 1), ⟨n5, (u.goTo q).marksL, T5, true, rfl, hi, ?_⟩, ?_, ⟨?_, ?_⟩, LeH.refl _⟩, fun he => ⟨(ct, i + 1), ⟨n5, (u.goTo q).marksL, T5, true, rfl, hi, ?_⟩, ?_, ?_, LeH.refl _⟩⟩
          · show ct + 1 = _
            rw [hstep, if_pos he, hc]
          · show (u.goTo q).marksL.length - (i + 1) < (u.goTo q).marksL.length - i
            omega
          · show IntKind.i64.wrap ((ct : Int) + 1) = ((ct + 1 : Nat) : Int)
            rw [w64 (by omega)]; rfl
          · show IntKind.i64.wrap ((i : Int) + 1) = ((i + 1 : Nat) : Int)
            rw [w64 (by omega)]; rfl
          · show ct = _
            rw [hstep, if_neg he, hc]; rfl
          · show (u.goTo q).marksL.length - (i + 1) < (u.goTo q).marksL.length - i
            omega
          · refine ⟨rfl, ?_⟩
            show IntKind.i64.wrap ((i : Int) + 1) = ((i + 1 : Nat) : Int)
            rw [w64 (by omega)]; rfl
        have hi2 : i = (u.goTo q).marksL.length := by have : ¬ (i : Int) < ((u.goTo q).marksL.length : Int) := hi; omega
        have hc1 : ct = 1 := by rw [hc, hi2, List.take_length]; exact hcount
        subst hc1
        refine ⟨u.goTo q, _, e1u, rfl, okq, fun S6 a6 n6 c6 T6 => ⟨u.goTo q, _, e1u, rfl, okq, fun S7 => ⟨fun hno => absurd hin (hno _ _), fun v b hv => ?_⟩⟩⟩
        have hva : v = u.at_ := by have := mark_one oku.keys hv hin; omega
        have dq : ((u.goTo q).doneL.length : Int) = q := by rw [HS.doneL_len]; rfl
        have du : (u.doneL.length : Int) = u.at_ := by rw [HS.doneL_len]
        have hw1 : IntKind.i64.wrap ((u.doneL.length : Int) - ((u.goTo q).doneL.length : Int)) = (u.at_ : Int) - q := by rw [dq, du, w64 (by omega)]
        have hw2 : IntKind.i64.wrap (((u.goTo q).doneL.length : Int) - (u.doneL.length : Int)) = (q : Int) - u.at_ := by rw [dq, du, w64 (by omega)]
        have dl : u.at_ ≤ 1048576 := by omega
        have ul : u.len - u.at_ ≤ 1048576 := by omega
        have eu : u.goTo u.at_ = u := rfl
        refine ⟨fun hq2 => ?_, fun hq2 n8 c8 g8 h8 h8' => ?_, fun hq2 hq3 n8 c8 g8 h8 h8' => ?_⟩
        · replace hq2 : v = q := hq2
          obtain rfl : q = u.at_ := by omega
          refine ⟨fun _ => ⟨fun _ => ?_, fun h => absurd ?_ h⟩, fun h => absurd rfl h⟩
          · exact ⟨u, _, e1u, rfl, oku, fun S9 a9 n9 c9 T9 => ⟨u.doneL, u.doneL, T9, _, true, true, rfl, rfl, rfl, rfl, (by show ([6, 2] : List Nat).Nodup; decide), by rw [HS.doneL_len]; exact dl, ⟨fun _ => ⟨u, _, e1u, rfl, oku, fun S10 a10 n10 c10 T10 => ⟨u.undoneL, u.undoneL, T10, _, true, true, rfl, rfl, rfl, rfl, (by show ([7, 3] : List Nat).Nodup; decide), by rw [HS.undoneL_len]; exact ul, ⟨fun _ => trivial, fun h => absurd rfl h⟩⟩⟩, fun h => absurd rfl h⟩⟩⟩
          · rw [hw1, hw2]; split <;> omega
        · replace hq2 : v < q := hq2
          subst hva
          refine ⟨fun _ => ⟨fun _ => ?_, fun h => absurd ?_ h⟩, fun h => absurd rfl h⟩
          · exact ⟨u, _, e1u, rfl, oku, fun S9 a9 n9 c9 T9 => ⟨u.doneL, u.doneL, T9, _, true, true, rfl, rfl, rfl, rfl, (by show ([7, 2] : List Nat).Nodup; decide), by rw [HS.doneL_len]; exact dl, ⟨fun _ => ⟨u, _, e1u, rfl, oku, fun S10 a10 n10 c10 T10 => ⟨u.undoneL, u.undoneL, T10, _, true, true, rfl, rfl, rfl, rfl, (by show ([8, 3] : List Nat).Nodup; decide), by rw [HS.undoneL_len]; exact ul, ⟨fun _ => trivial, fun h => absurd rfl h⟩⟩⟩, fun h => absurd rfl h⟩⟩⟩
          · rw [hw1, hw2]
            show ((q - u.at_ : Nat) : Int) = _
            split <;> omega
        · replace hq2 : q < v := hq2
          subst hva
          refine ⟨fun _ => ⟨fun _ => ?_, fun h => absurd ?_ h⟩, fun h => absurd rfl h⟩
          · exact ⟨u, _, e1u, rfl, oku, fun S9 a9 n9 c9 T9 => ⟨u.doneL, u.doneL, T9, _, true, true, rfl, rfl, rfl, rfl, (by show ([7, 2] : List Nat).Nodup; decide), by rw [HS.doneL_len]; exact dl, ⟨fun _ => ⟨u, _, e1u, rfl, oku, fun S10 a10 n10 c10 T10 => ⟨u.undoneL, u.undoneL, T10, _, true, true, rfl, rfl, rfl, rfl, (by show ([8, 3] : List Nat).Nodup; decide), by rw [HS.undoneL_len]; exact ul, ⟨fun _ => trivial, fun h => absurd rfl h⟩⟩⟩, fun h => absurd rfl h⟩⟩⟩
          · rw [hw1, hw2]
            show ((u.at_ - q : Nat) : Int) = _
            split <;> omega
      case B =>
        have oku := HS.mark1_ok ok hno
        have fewu : (s.mark1 nm).es.length ≤ 16 := HS.few_mark1 hlt
        have hin : ∃ c, ((nm, ((s.mark1 nm).at_ : Int)), c) ∈ (s.mark1 nm).es := ⟨s.clock, List.mem_append.2 (.inr (List.mem_singleton.2 rfl))⟩
        have e1u : n1 = (s.mark1 nm).hn := e1.symm
        obtain ⟨cb, hin⟩ := hin
        generalize s.mark1 nm = u at oku fewu hin e1u ⊢
        have leu := oku.le
        have lmu := oku.lm
        have m1u := oku.m1
        refine ⟨u, _, e1u, rfl, oku, fun S2 a2 n2 c2 T2 => ⟨u, _, e1u, rfl, oku, fun S3 a3 n3 c3 T3 => ⟨⟨(u, S3, 0), ⟨u, S3, u.at_, rfl, oku.le, rfl⟩, rfl, LeH.refl _⟩, ?_⟩⟩⟩
        rintro ⟨t, St, i⟩ ⟨s0, S0, p, h0, hp, ht⟩
        obtain rfl : u = s0 := hH_inj h0
        obtain rfl : t = u.goTo p := ht
        refine ⟨fun hi => ⟨u.goTo p, _, e1u, rfl, HS.goTo_ok oku hp, fun S' => ⟨fun h => ⟨(u.goTo p, S', i + 1), ⟨u, _, p, rfl, hp, rfl⟩, ?_, ?_, LeH.refl _⟩, fun h => ⟨(u.goTo (p - 1), S', i + 1), ⟨u, _, p - 1, rfl, by omega, rfl⟩, ?_, ?_, LeH.refl _⟩⟩⟩, fun _ => ⟨⟨(u.goTo p, St, 0), ⟨u.goTo p, St, p, rfl, hp, rfl⟩, rfl, LeH.refl _⟩, ?_⟩⟩
        · show back.toNat - (i + 1) < back.toNat - i
          have : (i : Int) < back := hi
          omega
        · have : (i : Int) < back := hi
          show IntKind.i64.wrap ((i : Int) + 1) = ((i + 1 : Nat) : Int)
          rw [w64 (by omega)]; rfl
        · show back.toNat - (i + 1) < back.toNat - i
          have : (i : Int) < back := hi
          omega
        · have : (i : Int) < back := hi
          show IntKind.i64.wrap ((i : Int) + 1) = ((i + 1 : Nat) : Int)
          rw [w64 (by omega)]; rfl
        rintro ⟨t, Sv, i⟩ ⟨s0, S0, q, h0, hq, ht⟩
        obtain rfl : u.goTo p = s0 := hH_inj h0
        obtain rfl : t = u.goTo q := ht
        replace hq : q ≤ u.len := hq
        refine ⟨fun hi => ⟨u.goTo q, _, e1u, rfl, HS.goTo_ok oku hq, fun S' => ⟨fun h => ⟨(u.goTo q, S', i + 1), ⟨u.goTo p, _, q, rfl, hq, rfl⟩, ?_, ?_, LeH.refl _⟩, fun h => ⟨(u.goTo (q + 1), S', i + 1), ⟨u.goTo p, _, q + 1, rfl, h, rfl⟩, ?_, ?_, LeH.refl _⟩⟩⟩, fun _ => ?_⟩
        · show again.toNat - (i + 1) < again.toNat - i
          have : (i : Int) < again := hi
          omega
        · have : (i : Int) < again := hi
          show IntKind.i64.wrap ((i : Int) + 1) = ((i + 1 : Nat) : Int)
          rw [w64 (by omega)]; rfl
        · show again.toNat - (i + 1) < again.toNat - i
          have : (i : Int) < again := hi
          omega
        · have : (i : Int) < again := hi
          show IntKind.i64.wrap ((i : Int) + 1) = ((i + 1 : Nat) : Int)
          rw [w64 (by omega)]; rfl
        have okq := HS.goTo_ok oku hq
        have hml : (u.goTo q).marksL.length ≤ 16 := by rw [HS.marksL_len]; exact fewu
        have hcount : (u.goTo q).marksL.countP (fun y => decide (y = nm)) = 1 := marks_count okq.keys hin
        refine ⟨u.goTo q, _, e1u, rfl, okq, fewu, fun S5 a5 n5 c5 T5 => ⟨⟨(0, 0), ⟨n5, (u.goTo q).marksL, T5, true, rfl, Nat.zero_le _, by simp⟩, ⟨rfl, rfl⟩, LeH.refl _⟩, ?_⟩⟩
        rintro ⟨ct, i⟩ ⟨n', l, Sx, w, h0, hil, hc⟩
        obtain rfl : (u.goTo q).marksL = l := lS_inj h0
        replace hil : i ≤ (u.goTo q).marksL.length := hil
        replace hc : ct = ((u.goTo q).marksL.take i).countP (fun y => decide (y = nm)) := hc
        have hct : ct ≤ i := by rw [hc]; exact Nat.le_trans List.countP_le_length (by rw [List.length_take]; omega)
        refine ⟨fun hi => ?_, fun hi => ?_⟩
        · have hi : i < (u.goTo q).marksL.length := by have : (i : Int) < ((u.goTo q).marksL.length : Int) := hi; omega
          have hstep := count_step (nm := nm) hi
          refine ⟨⟨by omega, by show (i : Int) < ((u.goTo q).marksL.length : Int); omega⟩, hi, fun he => ⟨(ct + 1, i + 1), ⟨n5, (u.goTo q).marksL, T5, true, rfl, hi, ?_⟩, ?_, ⟨?_, ?_⟩, LeH.refl _⟩, fun he => ⟨(ct, i + 1), ⟨n5, (u.goTo q).marksL, T5, true, rfl, hi, ?_⟩, ?_, ?_, LeH.refl _⟩⟩
          · show ct + 1 = _
            rw [hstep, if_pos he, hc]
          · show (u.goTo q).marksL.length - (i + 1) < (u.goTo q).marksL.length - i
            omega
          · show IntKind.i64.wrap ((ct : Int) + 1) = ((ct + 1 : Nat) : Int)
            rw [w64 (by omega)]; rfl
          · show IntKind.i64.wrap ((i : Int) + 1) = ((i + 1 : Nat) : Int)
            rw [w64 (by omega)]; rfl
          · show ct = _
            rw [hstep, if_neg he, hc]; rfl
          · show (u.goTo q).marksL.length - (i + 1) < (u.goTo q).marksL.length - i
            omega
          · refine ⟨rfl, ?_⟩
            show IntKind.i64.wrap ((i : Int) + 1) = ((i + 1 : Nat) : Int)
            rw [w64 (by omega)]; rfl
        have hi2 : i = (u.goTo q).marksL.length := by have : ¬ (i : Int) < ((u.goTo q).marksL.length : Int) := hi; omega
        have hc1 : ct = 1 := by rw [hc, hi2, List.take_length]; exact hcount
        subst hc1
        refine ⟨u.goTo q, _, e1u, rfl, okq, fun S6 a6 n6 c6 T6 => ⟨u.goTo q, _, e1u, rfl, okq, fun S7 => ⟨fun hno => absurd hin (hno _ _), fun v b hv => ?_⟩⟩⟩
        have hva : v = u.at_ := by have := mark_one oku.keys hv hin; omega
        have dq : ((u.goTo q).doneL.length : Int) = q := by rw [HS.doneL_len]; rfl
        have du : (u.doneL.length : Int) = u.at_ := by rw [HS.doneL_len]
        have hw1 : IntKind.i64.wrap ((u.doneL.length : Int) - ((u.goTo q).doneL.length : Int)) = (u.at_ : Int) - q := by rw [dq, du, w64 (by omega)]
        have hw2 : IntKind.i64.wrap (((u.goTo q).doneL.length : Int) - (u.doneL.length : Int)) = (q : Int) - u.at_ := by rw [dq, du, w64 (by omega)]
        have dl : u.at_ ≤ 1048576 := by omega
        have ul : u.len - u.at_ ≤ 1048576 := by omega
        have eu : u.goTo u.at_ = u := rfl
        refine ⟨fun hq2 => ?_, fun hq2 n8 c8 g8 h8 h8' => ?_, fun hq2 hq3 n8 c8 g8 h8 h8' => ?_⟩
        · replace hq2 : v = q := hq2
          obtain rfl : q = u.at_ := by omega
          refine ⟨fun _ => ⟨fun _ => ?_, fun h => absurd ?_ h⟩, fun h => absurd rfl h⟩
          · exact ⟨u, _, e1u, rfl, oku, fun S9 a9 n9 c9 T9 => ⟨u.doneL, u.doneL, T9, _, true, true, rfl, rfl, rfl, rfl, (by show ([6, 2] : List Nat).Nodup; decide), by rw [HS.doneL_len]; exact dl, ⟨fun _ => ⟨u, _, e1u, rfl, oku, fun S10 a10 n10 c10 T10 => ⟨u.undoneL, u.undoneL, T10, _, true, true, rfl, rfl, rfl, rfl, (by show ([7, 3] : List Nat).Nodup; decide), by rw [HS.undoneL_len]; exact ul, ⟨fun _ => trivial, fun h => absurd rfl h⟩⟩⟩, fun h => absurd rfl h⟩⟩⟩
          · rw [hw1, hw2]; split <;> omega
        · replace hq2 : v < q := hq2
          subst hva
          refine ⟨fun _ => ⟨fun _ => ?_, fun h => absurd ?_ h⟩, fun h => absurd rfl h⟩
          · exact ⟨u, _, e1u, rfl, oku, fun S9 a9 n9 c9 T9 => ⟨u.doneL, u.doneL, T9, _, true, true, rfl, rfl, rfl, rfl, (by show ([7, 2] : List Nat).Nodup; decide), by rw [HS.doneL_len]; exact dl, ⟨fun _ => ⟨u, _, e1u, rfl, oku, fun S10 a10 n10 c10 T10 => ⟨u.undoneL, u.undoneL, T10, _, true, true, rfl, rfl, rfl, rfl, (by show ([8, 3] : List Nat).Nodup; decide), by rw [HS.undoneL_len]; exact ul, ⟨fun _ => trivial, fun h => absurd rfl h⟩⟩⟩, fun h => absurd rfl h⟩⟩⟩
          · rw [hw1, hw2]
            show ((q - u.at_ : Nat) : Int) = _
            split <;> omega
        · replace hq2 : q < v := hq2
          subst hva
          refine ⟨fun _ => ⟨fun _ => ?_, fun h => absurd ?_ h⟩, fun h => absurd rfl h⟩
          · exact ⟨u, _, e1u, rfl, oku, fun S9 a9 n9 c9 T9 => ⟨u.doneL, u.doneL, T9, _, true, true, rfl, rfl, rfl, rfl, (by show ([7, 2] : List Nat).Nodup; decide), by rw [HS.doneL_len]; exact dl, ⟨fun _ => ⟨u, _, e1u, rfl, oku, fun S10 a10 n10 c10 T10 => ⟨u.undoneL, u.undoneL, T10, _, true, true, rfl, rfl, rfl, rfl, (by show ([8, 3] : List Nat).Nodup; decide), by rw [HS.undoneL_len]; exact ul, ⟨fun _ => trivial, fun h => absurd rfl h⟩⟩⟩, fun h => absurd rfl h⟩⟩⟩
          · rw [hw1, hw2]
            show ((u.at_ - q : Nat) : Int) = _
            split <;> omega)
end Go.Proofs.Ytkjnkepdhbpnbaa

