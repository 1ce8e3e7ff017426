/- Csv: the law CsvEnds. -/
import Derived.Test.YtdokphikobfakaaDoorX8
namespace Go.Sp
open Go.Eng Go.Proofs.YtdokphikobfakaaDoor

/-- A text with other ends of rows. -/
def crL : List UInt8 → List UInt8
  | [] => []
  | b :: l => if b = 10 then 13 :: 10 :: crL l else b :: crL l

theorem crL_app : ∀ l m : List UInt8, crL (l ++ m) = crL l ++ crL m
  | [], m => rfl
  | b :: l, m => by
    rw [List.cons_append, crL, crL]
    split <;> rw [crL_app l m] <;> rfl

theorem crL_len : ∀ l : List UInt8, (crL l).length ≤ 2 * l.length
  | [] => Nat.le_refl _
  | b :: l => by
    have := crL_len l
    rw [crL]
    split <;> simp only [List.length_cons] <;> omega

theorem crL_no : ∀ {l : List UInt8}, (10 : UInt8) ∉ l → crL l = l
  | [], _ => rfl
  | b :: l, h => by
    have hb : ¬ b = 10 := fun e => h (e ▸ List.mem_cons_self)
    rw [crL, if_neg hb, crL_no fun hm => h (List.mem_cons_of_mem _ hm)]

theorem crL_step {l : List UInt8} {i : Nat} {b : UInt8} (h : l[i]? = some b) : crL (l.take (i + 1)) = crL (l.take i) ++ (if b = 10 then [13, 10] else [b]) := by
  rw [List.take_add_one, h, crL_app]
  congr 1

/-- Without signs. -/
def clean (t : ByteArray) : Prop := ∀ q, q < t.size → ¬ isSign (bAt t q)

theorem clean_mem {t : ByteArray} (h : clean t) {b : UInt8} (hb : b ∈ t.data.toList) : ¬ isSign b := by
  obtain ⟨q, hq⟩ := List.getElem?_of_mem hb
  have hl : q < t.data.toList.length := (List.getElem?_eq_some_iff.1 hq).1
  have : bAt t q = b := by rw [bAt, hq]; rfl
  rw [← this]
  exact h q (by rw [← size_data]; exact hl)

theorem quoteL_mem {b : UInt8} : ∀ {l : List UInt8}, b ∈ quoteL l → b ∈ l
  | [], h => by cases h
  | d :: l, h => by
    rw [quoteL] at h
    split at h
    · rename_i hd
      rcases List.mem_cons.1 h with rfl | h
      · rw [hd]; exact List.mem_cons_self
      · rcases List.mem_cons.1 h with rfl | h
        · rw [hd]; exact List.mem_cons_self
        · exact List.mem_cons_of_mem _ (quoteL_mem h)
    · rcases List.mem_cons.1 h with rfl | h
      · exact List.mem_cons_self
      · exact List.mem_cons_of_mem _ (quoteL_mem h)

theorem fieldL_ten {c : UInt8} {al : Bool} {t : ByteArray} (h : clean t) : (10 : UInt8) ∉ fieldL c al t := fun hm => by
  have h10 : isSign 10 := .inr (.inr rfl)
  unfold fieldL at hm
  split at hm
  · rcases List.mem_append.1 hm with hm | hm
    · rcases List.mem_cons.1 hm with e | hm
      · exact absurd e (by decide)
      · exact clean_mem h (quoteL_mem hm) h10
    · simp at hm
  · exact clean_mem h hm h10

theorem fieldsL_ten {c : UInt8} {n : Nat} {F : Nat → ByteArray} (hc : c ≠ 10) : ∀ {k : Nat}, (∀ j, j < k → clean (F j)) → (10 : UInt8) ∉ fieldsL c n F k
  | 0, _, h => by cases h
  | k + 1, hF, h => by
    rw [fieldsL] at h
    rcases List.mem_append.1 h with h | h
    · rcases List.mem_append.1 h with h | h
      · exact fieldsL_ten hc (fun j hj => hF j (by omega)) h
      · split at h
        · cases h
        · simp at h; exact hc h.symm
    · exact fieldL_ten (hF k (by omega)) h

theorem rowsE_cr {c : UInt8} {g : Nat → RW} {F : Nat → Nat → ByteArray} (hc : c ≠ 10) : ∀ {L : Nat}, (∀ i, i < L → ∀ j, j < (g i).len → clean (F i j)) → crL (rowsL c g F L) = rowsE c g F (fun _ => [13, 10]) L
  | 0, _ => rfl
  | L + 1, h => by
    rw [rowsL, rowsE, crL_app, crL_app, rowsE_cr hc fun i hi => h i (by omega), crL_no (fieldsL_ten hc (h L (by omega)))]
    rfl

theorem rowsE_congr {c : UInt8} {g : Nat → RW} {F : Nat → Nat → ByteArray} {E E' : Nat → List UInt8} : ∀ {L : Nat}, (∀ i, i < L → E i = E' i) → rowsE c g F E L = rowsE c g F E' L
  | 0, _ => rfl
  | L + 1, h => by rw [rowsE, rowsE, rowsE_congr fun i hi => h i (by omega), h L (by omega)]

/-- Without the last end. -/
theorem rowsE_last {c : UInt8} {g : Nat → RW} {F : Nat → Nat → ByteArray} {L : Nat} (h : 0 < L) : (rowsL c g F L).take ((rowsL c g F L).length - 1) = rowsE c g F (fun i => if i + 1 = L then [] else [10]) L ∧ 0 < (rowsL c g F L).length := by
  obtain ⟨M, rfl⟩ : ∃ M, L = M + 1 := ⟨L - 1, by omega⟩
  have e : rowsL c g F (M + 1) = rowsE c g F (fun i => if i + 1 = M + 1 then [] else [10]) (M + 1) ++ [10] := by
    rw [rowsL, rowsE, if_pos rfl, List.append_nil, rowsE_congr (E' := fun _ => [10]) fun i hi => if_neg (by omega), rowsE_ten]
  rw [e, List.length_append]
  simp

end Go.Sp
namespace Go.Eng
open Go.Sp Go.Proofs.YtdokphikobfakaaDoor

/-- On the way through a text. -/
structure CX where
  i : Nat
  t : ByteArray

def endJ (L : Nat) (g : Nat → RW) (F : Nat → Nat → ByteArray) : Nat → TT → HH → LI := fun b T H =>
  match b with
  | 0 => .inv Nat (fun i => ((5, .v (.int .i64 (i : Int))) :: keepT [0, 1] T, H)) (fun i => i ≤ L ∧ ∀ p, p < i → ∀ j, j < (g p).len → clean (F p j)) (fun i => L - i)
  | 2 =>
    match T.get 5 with
    | some (.v (.int _ i)) => .inv Nat (fun k => ((6, .v (.int .i64 (k : Int))) :: keepT [0, 1, 5] T, H)) (fun k => k ≤ (g i.toNat).len ∧ ∀ j, j < k → clean (F i.toNat j)) (fun k => (g i.toNat).len - k)
    | _ => .unroll 0
  | 4 =>
    match T.get 5, T.get 6 with
    | some (.v (.int _ i)), some (.v (.int _ k)) => .inv Nat (fun q => ((7, .v (.int .i64 (q : Int))) :: keepT [0, 1, 5, 6] T, H)) (fun q => q ≤ (F i.toNat k.toNat).size ∧ ∀ r, r < q → ¬ isSign (bAt (F i.toNat k.toNat) r)) (fun q => (F i.toNat k.toNat).size - q)
    | _, _ => .unroll 0
  | 6 =>
    match T.get 9 with
    | some (.v (.string t)) => .inv CX (fun x => ((12, .v (.int .i64 (x.i : Int))) :: (11, .v (.string x.t)) :: keepT [0, 1, 9] T, H)) (fun x => x.i ≤ t.size ∧ x.t.data.toList = crL (t.data.toList.take x.i)) (fun x => t.size - x.i)
    | _ => .unroll 0
  | _ => .unroll 0

end Go.Eng
namespace Go.Proofs.YtdokphikobfakaaDoor
open Go Go.Eng Go.Sp
set_option linter.unusedVariables false
set_option linter.unusedSimpArgs false


set_option maxRecDepth 100000 in
theorem ends0_vc (a : Option Addr) (n o L cap : Nat) (g : Nat → RW) (F : Nat → Nat → ByteArray) (S : List Nat) (c m : Int) {R : AV → Prop} (h : ((∃ (x : Nat), (x ≤ L ∧ ∀ (p : Nat), p < x → ∀ (j : Nat), j < (g p).len → clean (F p j)) ∧ ((AV.v (Value.int IntKind.i64 (0 : Int))).den = (AV.v (Value.int IntKind.i64 (↑x : Int))).den ∧ (AV.os (1 : Nat) a n o (0 : Nat) (1 : Nat) L cap).den = (AV.os (1 : Nat) a n o (0 : Nat) (1 : Nat) L cap).den ∧ (AV.v (Value.int IntKind.u8 c)).den = (AV.v (Value.int IntKind.u8 c)).den ∧ True) ∧ LeH [Blk.mk (0 : Nat) (Cont.view (0 : Nat) (1 : Nat) [Col.ints IntKind.i64 fun (x : Nat) => m]) false, Blk.mk n (Cont.texts o L g F S false) false] [Blk.mk (0 : Nat) (Cont.view (0 : Nat) (1 : Nat) [Col.ints IntKind.i64 fun (x : Nat) => m]) false, Blk.mk n (Cont.texts o L g F S false) false]) ∧ ∀ (n1 : Nat), (n1 ≤ L ∧ ∀ (p : Nat), p < n1 → ∀ (j : Nat), j < (g p).len → clean (F p j)) → br (decide ((↑n1 : Int) < (↑L : Int))) ((∃ (x : Nat), (x ≤ (g (↑n1 : Int).toNat).len ∧ ∀ (j : Nat), j < x → clean (F (↑n1 : Int).toNat j)) ∧ ((AV.v (Value.int IntKind.i64 (0 : Int))).den = (AV.v (Value.int IntKind.i64 (↑x : Int))).den ∧ (AV.os (1 : Nat) a n o (0 : Nat) (1 : Nat) L cap).den = (AV.os (1 : Nat) a n o (0 : Nat) (1 : Nat) L cap).den ∧ (AV.v (Value.int IntKind.u8 c)).den = (AV.v (Value.int IntKind.u8 c)).den ∧ (AV.v (Value.int IntKind.i64 (↑n1 : Int))).den = (AV.v (Value.int IntKind.i64 (↑n1 : Int))).den ∧ True) ∧ LeH [Blk.mk (0 : Nat) (Cont.view (0 : Nat) (1 : Nat) [Col.ints IntKind.i64 fun (x : Nat) => m]) false, Blk.mk n (Cont.texts o L g F S false) false] [Blk.mk (0 : Nat) (Cont.view (0 : Nat) (1 : Nat) [Col.ints IntKind.i64 fun (x : Nat) => m]) false, Blk.mk n (Cont.texts o L g F S false) false]) ∧ ∀ (n3 : Nat), (n3 ≤ (g (↑n1 : Int).toNat).len ∧ ∀ (j : Nat), j < n3 → clean (F (↑n1 : Int).toNat j)) → ((0 : Int) ≤ (↑n1 : Int) ∧ (↑n1 : Int) < (↑L : Int)) ∧ n = n ∧ o = o ∧ (0 : Nat) + (↑n1 : Int).toNat < L ∧ br (decide ((↑n3 : Int) < (↑(g ((0 : Nat) + (↑n1 : Int).toNat)).len : Int))) ((∃ (x : Nat), (x ≤ (F (↑n1 : Int).toNat (↑n3 : Int).toNat).size ∧ ∀ (r : Nat), r < x → ¬isSign (bAt (F (↑n1 : Int).toNat (↑n3 : Int).toNat) r)) ∧ ((AV.v (Value.int IntKind.i64 (0 : Int))).den = (AV.v (Value.int IntKind.i64 (↑x : Int))).den ∧ (AV.os (1 : Nat) a n o (0 : Nat) (1 : Nat) L cap).den = (AV.os (1 : Nat) a n o (0 : Nat) (1 : Nat) L cap).den ∧ (AV.v (Value.int IntKind.u8 c)).den = (AV.v (Value.int IntKind.u8 c)).den ∧ (AV.v (Value.int IntKind.i64 (↑n1 : Int))).den = (AV.v (Value.int IntKind.i64 (↑n1 : Int))).den ∧ (AV.v (Value.int IntKind.i64 (↑n3 : Int))).den = (AV.v (Value.int IntKind.i64 (↑n3 : Int))).den ∧ True) ∧ LeH [Blk.mk (0 : Nat) (Cont.view (0 : Nat) (1 : Nat) [Col.ints IntKind.i64 fun (x : Nat) => m]) false, Blk.mk n (Cont.texts o L g F S false) false] [Blk.mk (0 : Nat) (Cont.view (0 : Nat) (1 : Nat) [Col.ints IntKind.i64 fun (x : Nat) => m]) false, Blk.mk n (Cont.texts o L g F S false) false]) ∧ ∀ (n5 : Nat), (n5 ≤ (F (↑n1 : Int).toNat (↑n3 : Int).toNat).size ∧ ∀ (r : Nat), r < n5 → ¬isSign (bAt (F (↑n1 : Int).toNat (↑n3 : Int).toNat) r)) → ((0 : Int) ≤ (↑n1 : Int) ∧ (↑n1 : Int) < (↑L : Int)) ∧ n = n ∧ o = o ∧ (0 : Nat) + (↑n1 : Int).toNat < L ∧ ((0 : Int) ≤ (↑n3 : Int) ∧ (↑n3 : Int) < (↑(g ((0 : Nat) + (↑n1 : Int).toNat)).len : Int)) ∧ ∃ (q : Nat), q < L ∧ (g ((0 : Nat) + (↑n1 : Int).toNat)).n = (g q).n ∧ (g ((0 : Nat) + (↑n1 : Int).toNat)).o = (g q).o ∧ (0 : Nat) + (↑n3 : Int).toNat < (g q).len ∧ br (decide ((↑n5 : Int) < (↑(F q ((0 : Nat) + (↑n3 : Int).toNat)).size : Int))) (((0 : Int) ≤ (↑n1 : Int) ∧ (↑n1 : Int) < (↑L : Int)) ∧ n = n ∧ o = o ∧ (0 : Nat) + (↑n1 : Int).toNat < L ∧ ((0 : Int) ≤ (↑n3 : Int) ∧ (↑n3 : Int) < (↑(g ((0 : Nat) + (↑n1 : Int).toNat)).len : Int)) ∧ ∃ (q : Nat), q < L ∧ (g ((0 : Nat) + (↑n1 : Int).toNat)).n = (g q).n ∧ (g ((0 : Nat) + (↑n1 : Int).toNat)).o = (g q).o ∧ (0 : Nat) + (↑n3 : Int).toNat < (g q).len ∧ ((0 : Int) ≤ (↑n5 : Int) ∧ (↑n5 : Int) < (↑(F q ((0 : Nat) + (↑n3 : Int).toNat)).size : Int)) ∧ br (byteAt (F q ((0 : Nat) + (↑n3 : Int).toNat)) (↑n5 : Int).toNat == (10 : Int)) (True ∧ R (AV.v (Value.bool true))) (br (byteAt (F q ((0 : Nat) + (↑n3 : Int).toNat)) (↑n5 : Int).toNat == (13 : Int)) (True ∧ R (AV.v (Value.bool true))) (br (byteAt (F q ((0 : Nat) + (↑n3 : Int).toNat)) (↑n5 : Int).toNat == (34 : Int)) (True ∧ R (AV.v (Value.bool true))) (∃ (x' : Nat), (x' ≤ (F (↑n1 : Int).toNat (↑n3 : Int).toNat).size ∧ ∀ (r : Nat), r < x' → ¬isSign (bAt (F (↑n1 : Int).toNat (↑n3 : Int).toNat) r)) ∧ (F (↑n1 : Int).toNat (↑n3 : Int).toNat).size - x' < (F (↑n1 : Int).toNat (↑n3 : Int).toNat).size - n5 ∧ ((AV.v (Value.int IntKind.i64 (IntKind.i64.wrap ((↑n5 : Int) + (1 : Int))))).den = (AV.v (Value.int IntKind.i64 (↑x' : Int))).den ∧ (AV.os (1 : Nat) a n o (0 : Nat) (1 : Nat) L cap).den = (AV.os (1 : Nat) a n o (0 : Nat) (1 : Nat) L cap).den ∧ (AV.v (Value.int IntKind.u8 c)).den = (AV.v (Value.int IntKind.u8 c)).den ∧ (AV.v (Value.int IntKind.i64 (↑n1 : Int))).den = (AV.v (Value.int IntKind.i64 (↑n1 : Int))).den ∧ (AV.v (Value.int IntKind.i64 (↑n3 : Int))).den = (AV.v (Value.int IntKind.i64 (↑n3 : Int))).den ∧ True) ∧ LeH [Blk.mk (0 : Nat) (Cont.view (0 : Nat) (1 : Nat) [Col.ints IntKind.i64 fun (x : Nat) => m]) false, Blk.mk n (Cont.texts o L g F S false) false] [Blk.mk (0 : Nat) (Cont.view (0 : Nat) (1 : Nat) [Col.ints IntKind.i64 fun (x : Nat) => m]) false, Blk.mk n (Cont.texts o L g F S false) false])))) (∃ (x' : Nat), (x' ≤ (g (↑n1 : Int).toNat).len ∧ ∀ (j : Nat), j < x' → clean (F (↑n1 : Int).toNat j)) ∧ (g (↑n1 : Int).toNat).len - x' < (g (↑n1 : Int).toNat).len - n3 ∧ ((AV.v (Value.int IntKind.i64 (IntKind.i64.wrap ((↑n3 : Int) + (1 : Int))))).den = (AV.v (Value.int IntKind.i64 (↑x' : Int))).den ∧ (AV.os (1 : Nat) a n o (0 : Nat) (1 : Nat) L cap).den = (AV.os (1 : Nat) a n o (0 : Nat) (1 : Nat) L cap).den ∧ (AV.v (Value.int IntKind.u8 c)).den = (AV.v (Value.int IntKind.u8 c)).den ∧ (AV.v (Value.int IntKind.i64 (↑n1 : Int))).den = (AV.v (Value.int IntKind.i64 (↑n1 : Int))).den ∧ True) ∧ LeH [Blk.mk (0 : Nat) (Cont.view (0 : Nat) (1 : Nat) [Col.ints IntKind.i64 fun (x : Nat) => m]) false, Blk.mk n (Cont.texts o L g F S false) false] [Blk.mk (0 : Nat) (Cont.view (0 : Nat) (1 : Nat) [Col.ints IntKind.i64 fun (x : Nat) => m]) false, Blk.mk n (Cont.texts o L g F S false) false])) (∃ (x' : Nat), (x' ≤ L ∧ ∀ (p : Nat), p < x' → ∀ (j : Nat), j < (g p).len → clean (F p j)) ∧ L - x' < L - n1 ∧ ((AV.v (Value.int IntKind.i64 (IntKind.i64.wrap ((↑n1 : Int) + (1 : Int))))).den = (AV.v (Value.int IntKind.i64 (↑x' : Int))).den ∧ (AV.os (1 : Nat) a n o (0 : Nat) (1 : Nat) L cap).den = (AV.os (1 : Nat) a n o (0 : Nat) (1 : Nat) L cap).den ∧ (AV.v (Value.int IntKind.u8 c)).den = (AV.v (Value.int IntKind.u8 c)).den ∧ True) ∧ LeH [Blk.mk (0 : Nat) (Cont.view (0 : Nat) (1 : Nat) [Col.ints IntKind.i64 fun (x : Nat) => m]) false, Blk.mk n (Cont.texts o L g F S false) false] [Blk.mk (0 : Nat) (Cont.view (0 : Nat) (1 : Nat) [Col.ints IntKind.i64 fun (x : Nat) => m]) false, Blk.mk n (Cont.texts o L g F S false) false])) (∃ (m_1 : Int), ∃ (g_1 : Nat → RW), ∃ (F_1 : Nat → Nat → ByteArray), ∃ (S_1 : List Nat), ∃ (w : Bool), some (Blk.mk (0 : Nat) (Cont.view (0 : Nat) (1 : Nat) [Col.ints IntKind.i64 fun (x : Nat) => m]) false) = some (Blk.mk (0 : Nat) (Cont.view (0 : Nat) (1 : Nat) [Col.ints IntKind.i64 fun (x : Nat) => m_1]) false) ∧ some (Blk.mk n (Cont.texts o L g F S false) false) = some (Blk.mk n (Cont.texts o L g_1 F_1 S_1 false) w) ∧ ((0 : Int) ≤ c ∧ c ≤ (255 : Int) ∧ smallT L g_1 F_1) ∧ br ((wrS c L g_1 F_1).snd != (0 : Int)) (br ((wrS c L g_1 F_1).snd != (0 : Int)) (True ∧ R (AV.v (Value.bool true))) (br (eqS (wrS c L g_1 F_1).fst (ByteArray.mk #[])) (True ∧ R (AV.v (Value.bool true))) (R (AV.v (Value.bool false))))) (br ((↑L : Int) == (0 : Int)) (br ((wrS c L g_1 F_1).snd != (0 : Int)) (True ∧ R (AV.v (Value.bool true))) (br (eqS (wrS c L g_1 F_1).fst (ByteArray.mk #[])) (True ∧ R (AV.v (Value.bool true))) (R (AV.v (Value.bool false))))) (br ((↑(wrS c L g_1 F_1).fst.size : Int) == (0 : Int)) (R (AV.v (Value.bool false))) ((∃ (x : CX), (x.i ≤ (wrS c L g_1 F_1).fst.size ∧ x.2.data.toList = crL (List.take x.i (wrS c L g_1 F_1).fst.data.toList)) ∧ ((AV.v (Value.int IntKind.i64 (0 : Int))).den = (AV.v (Value.int IntKind.i64 (↑x.i : Int))).den ∧ (AV.v (Value.string (ByteArray.mk #[]))).den = (AV.v (Value.string x.2)).den ∧ (AV.os (1 : Nat) a n o (0 : Nat) (1 : Nat) L cap).den = (AV.os (1 : Nat) a n o (0 : Nat) (1 : Nat) L cap).den ∧ (AV.v (Value.int IntKind.u8 c)).den = (AV.v (Value.int IntKind.u8 c)).den ∧ (AV.v (Value.string (wrS c L g_1 F_1).fst)).den = (AV.v (Value.string (wrS c L g_1 F_1).fst)).den ∧ True) ∧ LeH [Blk.mk (0 : Nat) (Cont.view (0 : Nat) (1 : Nat) [Col.ints IntKind.i64 fun (x : Nat) => m]) false, Blk.mk n (Cont.texts o L g F S false) false] [Blk.mk (0 : Nat) (Cont.view (0 : Nat) (1 : Nat) [Col.ints IntKind.i64 fun (x : Nat) => m]) false, Blk.mk n (Cont.texts o L g F S false) false]) ∧ ∀ (x : CX), x.i ≤ (wrS c L g_1 F_1).fst.size ∧ x.2.data.toList = crL (List.take x.i (wrS c L g_1 F_1).fst.data.toList) → br (decide ((↑x.i : Int) < (↑(wrS c L g_1 F_1).fst.size : Int))) (((0 : Int) ≤ (↑x.i : Int) ∧ (↑x.i : Int) < (↑(wrS c L g_1 F_1).fst.size : Int)) ∧ br (byteAt (wrS c L g_1 F_1).fst (↑x.i : Int).toNat == (10 : Int)) (x.2.size + (1 : Nat) ≤ (9223372036854775807 : Nat) ∧ ((0 : Int) ≤ IntKind.i64.wrap ((↑x.i : Int) + (1 : Int)) ∧ IntKind.i64.wrap ((↑x.i : Int) + (1 : Int)) ≤ (↑(wrS c L g_1 F_1).fst.size : Int)) ∧ ((0 : Int) ≤ (↑x.i : Int) ∧ (↑x.i : Int) ≤ IntKind.i64.wrap ((↑x.i : Int) + (1 : Int))) ∧ (catS x.2 (ByteArray.mk #[(13 : UInt8)])).size + (subS (wrS c L g_1 F_1).fst (↑x.i : Int).toNat (IntKind.i64.wrap ((↑x.i : Int) + (1 : Int))).toNat).size ≤ (9223372036854775807 : Nat) ∧ ∃ (x' : CX), (x'.i ≤ (wrS c L g_1 F_1).fst.size ∧ x'.2.data.toList = crL (List.take x'.i (wrS c L g_1 F_1).fst.data.toList)) ∧ (wrS c L g_1 F_1).fst.size - x'.i < (wrS c L g_1 F_1).fst.size - x.i ∧ ((AV.v (Value.int IntKind.i64 (IntKind.i64.wrap ((↑x.i : Int) + (1 : Int))))).den = (AV.v (Value.int IntKind.i64 (↑x'.i : Int))).den ∧ (AV.v (Value.string (catS (catS x.2 (ByteArray.mk #[(13 : UInt8)])) (subS (wrS c L g_1 F_1).fst (↑x.i : Int).toNat (IntKind.i64.wrap ((↑x.i : Int) + (1 : Int))).toNat)))).den = (AV.v (Value.string x'.2)).den ∧ (AV.os (1 : Nat) a n o (0 : Nat) (1 : Nat) L cap).den = (AV.os (1 : Nat) a n o (0 : Nat) (1 : Nat) L cap).den ∧ (AV.v (Value.int IntKind.u8 c)).den = (AV.v (Value.int IntKind.u8 c)).den ∧ (AV.v (Value.string (wrS c L g_1 F_1).fst)).den = (AV.v (Value.string (wrS c L g_1 F_1).fst)).den ∧ True) ∧ LeH [Blk.mk (0 : Nat) (Cont.view (0 : Nat) (1 : Nat) [Col.ints IntKind.i64 fun (x : Nat) => m]) false, Blk.mk n (Cont.texts o L g F S false) false] [Blk.mk (0 : Nat) (Cont.view (0 : Nat) (1 : Nat) [Col.ints IntKind.i64 fun (x : Nat) => m]) false, Blk.mk n (Cont.texts o L g F S false) false]) (((0 : Int) ≤ IntKind.i64.wrap ((↑x.i : Int) + (1 : Int)) ∧ IntKind.i64.wrap ((↑x.i : Int) + (1 : Int)) ≤ (↑(wrS c L g_1 F_1).fst.size : Int)) ∧ ((0 : Int) ≤ (↑x.i : Int) ∧ (↑x.i : Int) ≤ IntKind.i64.wrap ((↑x.i : Int) + (1 : Int))) ∧ x.2.size + (subS (wrS c L g_1 F_1).fst (↑x.i : Int).toNat (IntKind.i64.wrap ((↑x.i : Int) + (1 : Int))).toNat).size ≤ (9223372036854775807 : Nat) ∧ ∃ (x' : CX), (x'.i ≤ (wrS c L g_1 F_1).fst.size ∧ x'.2.data.toList = crL (List.take x'.i (wrS c L g_1 F_1).fst.data.toList)) ∧ (wrS c L g_1 F_1).fst.size - x'.i < (wrS c L g_1 F_1).fst.size - x.i ∧ ((AV.v (Value.int IntKind.i64 (IntKind.i64.wrap ((↑x.i : Int) + (1 : Int))))).den = (AV.v (Value.int IntKind.i64 (↑x'.i : Int))).den ∧ (AV.v (Value.string (catS x.2 (subS (wrS c L g_1 F_1).fst (↑x.i : Int).toNat (IntKind.i64.wrap ((↑x.i : Int) + (1 : Int))).toNat)))).den = (AV.v (Value.string x'.2)).den ∧ (AV.os (1 : Nat) a n o (0 : Nat) (1 : Nat) L cap).den = (AV.os (1 : Nat) a n o (0 : Nat) (1 : Nat) L cap).den ∧ (AV.v (Value.int IntKind.u8 c)).den = (AV.v (Value.int IntKind.u8 c)).den ∧ (AV.v (Value.string (wrS c L g_1 F_1).fst)).den = (AV.v (Value.string (wrS c L g_1 F_1).fst)).den ∧ True) ∧ LeH [Blk.mk (0 : Nat) (Cont.view (0 : Nat) (1 : Nat) [Col.ints IntKind.i64 fun (x : Nat) => m]) false, Blk.mk n (Cont.texts o L g F S false) false] [Blk.mk (0 : Nat) (Cont.view (0 : Nat) (1 : Nat) [Col.ints IntKind.i64 fun (x : Nat) => m]) false, Blk.mk n (Cont.texts o L g F S false) false])) (((0 : Int) ≤ c ∧ c ≤ (255 : Int) ∧ x.2.size ≤ (268435456 : Nat)) ∧ ∀ (rs : List (List ByteArray)) (b code : Int) (g_2 : Nat → RW) (a : Option Addr) (n15 n16 : Nat) (S_2 : List Nat), rdS x.2 c rs b code → (∀ (i : Nat), i < rs.length → (g_2 i).len = (rs.getD i []).length) → ((0 : Int) ≤ IntKind.i64.wrap ((↑(wrS c L g_1 F_1).fst.size : Int) - (1 : Int)) ∧ IntKind.i64.wrap ((↑(wrS c L g_1 F_1).fst.size : Int) - (1 : Int)) ≤ (↑(wrS c L g_1 F_1).fst.size : Int)) ∧ ((0 : Int) ≤ c ∧ c ≤ (255 : Int) ∧ (subS (wrS c L g_1 F_1).fst (0 : Nat) (IntKind.i64.wrap ((↑(wrS c L g_1 F_1).fst.size : Int) - (1 : Int))).toNat).size ≤ (268435456 : Nat)) ∧ ∀ (rs_1 : List (List ByteArray)) (b code_1 : Int) (g_3 : Nat → RW) (a : Option Addr) (n25 n26 : Nat) (S_3 : List Nat), rdS (subS (wrS c L g_1 F_1).fst (0 : Nat) (IntKind.i64.wrap ((↑(wrS c L g_1 F_1).fst.size : Int) - (1 : Int))).toNat) c rs_1 b code_1 → (∀ (i : Nat), i < rs_1.length → (g_3 i).len = (rs_1.getD i []).length) → br (code == (0 : Int)) (br (code_1 == (0 : Int)) (∃ (g1 : Nat → RW), ∃ (g2 : Nat → RW), ∃ (F1 : Nat → Nat → ByteArray), ∃ (F2 : Nat → Nat → ByteArray), ∃ (S1 : List Nat), ∃ (S2 : List Nat), ∃ (w1 : Bool), ∃ (w2 : Bool), some (Blk.mk n15 (Cont.texts (0 : Nat) rs.length g_2 (atR rs) S_2 false) true) = some (Blk.mk n15 (Cont.texts (0 : Nat) rs.length g1 F1 S1 false) w1) ∧ some (Blk.mk n (Cont.texts o L g F S false) false) = some (Blk.mk n (Cont.texts o L g2 F2 S2 false) w2) ∧ [Blk.mk (0 : Nat) (Cont.view (0 : Nat) (1 : Nat) [Col.ints IntKind.i64 fun (x : Nat) => m]) false, Blk.mk n (Cont.texts o L g F S false) false].length ≠ (1 : Nat) ∧ (rs.length ≤ (1099511627776 : Nat) ∧ ∀ (i : Nat), i < rs.length → (g1 i).len ≤ (1099511627776 : Nat)) ∧ br (sameV rs.length L g1 g2 F1 F2) (∃ (g1 : Nat → RW), ∃ (g2 : Nat → RW), ∃ (F1 : Nat → Nat → ByteArray), ∃ (F2 : Nat → Nat → ByteArray), ∃ (S1 : List Nat), ∃ (S2 : List Nat), ∃ (w1 : Bool), ∃ (w2 : Bool), some (Blk.mk n25 (Cont.texts (0 : Nat) rs_1.length g_3 (atR rs_1) S_3 false) true) = some (Blk.mk n25 (Cont.texts (0 : Nat) rs_1.length g1 F1 S1 false) w1) ∧ some (Blk.mk n (Cont.texts o L g F S false) false) = some (Blk.mk n (Cont.texts o L g2 F2 S2 false) w2) ∧ [Blk.mk (0 : Nat) (Cont.view (0 : Nat) (1 : Nat) [Col.ints IntKind.i64 fun (x : Nat) => m]) false, Blk.mk n (Cont.texts o L g F S false) false, Blk.mk n15 (Cont.texts (0 : Nat) rs.length g_2 (atR rs) S_2 false) true].length ≠ (1 : Nat) ∧ (rs_1.length ≤ (1099511627776 : Nat) ∧ ∀ (i : Nat), i < rs_1.length → (g1 i).len ≤ (1099511627776 : Nat)) ∧ br (sameV rs_1.length L g1 g2 F1 F2) (True ∧ R (AV.v (Value.bool true))) (R (AV.v (Value.bool false)))) (R (AV.v (Value.bool false)))) (R (AV.v (Value.bool false)))) (R (AV.v (Value.bool false)))))))))) : LC Tryd.prog 6 [.os 1 a n o 0 1 L cap, .v (.int .u8 c)] [gB m, ⟨n, .texts o L g F S false, false⟩] (fun z_ _ => R z_) :=
  lc_of_exec (tbl := tb4) tab_ok tb4_ok mixed ((endJ L g F)) 2 _ Tryd.func6 rfl Tryd.ntmps6 (by decide) (by kernel_rfl) (Nat.le_of_ble_eq_true rfl) (@Eq.mpr (execN tab tb4 ((endJ L g F)) 2 Tryd.f6.ntmps [] none 0 (body Tryd.f6) (argsT [.os 1 a n o 0 1 L cap, .v (.int .u8 c)] 0) [gB m, ⟨n, .texts o L g F S false, false⟩] (post Tryd.f6 tab (retK (fun z_ _ => R z_)))) _ (by kernel_rfl) h)


theorem sub_byte {t : ByteArray} {i : Nat} {b : UInt8} (h : t.data.toList[i]? = some b) : (subS t i (i + 1)).data.toList = [b] := by
  rw [toList_sub, show i + 1 - i = 1 by omega]
  obtain ⟨hl, hb⟩ := List.getElem?_eq_some_iff.1 h
  rw [List.drop_eq_getElem_cons hl, hb]
  rfl

set_option maxHeartbeats 1000000 in
theorem ends_law (a : Option Addr) (n o L cap : Nat) (g : Nat → RW) (F : Nat → Nat → ByteArray) (S : List Nat) (c m : Int) (h0 : 0 ≤ c) (h1 : c ≤ 255) (hs : smallT L g F) : LC Tryd.prog 6 [.os 1 a n o 0 1 L cap, .v (.int .u8 c)] [gB m, ⟨n, .texts o L g F S false, false⟩] (fun z _ => z = .v (.bool true)) :=
  ends0_vc a n o L cap g F S c m (by
    have hLs := small_len hs
    have hrs := small_rows hs c.toNat.toUInt8
    simp only [true_and, and_true]
    refine ⟨⟨0, ⟨Nat.zero_le _, fun p hp => absurd hp (Nat.not_lt_zero _)⟩, rfl, LeH.refl _⟩, fun i hi => ?_⟩
    obtain ⟨i1, i2⟩ := hi
    simp only [Int.toNat_natCast, Nat.zero_add]
    refine br_intro (fun hlt => ?_) (fun hge => ?_)
    · have hlt : i < L := by have := of_decide_eq_true hlt; omega
      have hgi := small_rlen hs hlt
      refine ⟨⟨0, ⟨Nat.zero_le _, fun p hp => absurd hp (Nat.not_lt_zero _)⟩, rfl, LeH.refl _⟩, fun k hk => ⟨⟨by omega, by omega⟩, hlt, br_intro (fun hkl => ?_) (fun hkg => ?_)⟩⟩
      · obtain ⟨k1, k2⟩ := hk
        have hkl : k < (g i).len := by have := of_decide_eq_true hkl; omega
        have hft := small_text hs hlt hkl
        refine ⟨⟨0, ⟨Nat.zero_le _, fun p hp => absurd hp (Nat.not_lt_zero _)⟩, rfl, LeH.refl _⟩, fun q hq => ⟨⟨by omega, by omega⟩, hlt, ⟨by omega, by omega⟩, i, hlt, rfl, rfl, hkl, br_intro (fun hql => ?_) (fun hqg => ?_)⟩⟩
        · obtain ⟨q1, q2⟩ := hq
          have hql : q < (F i k).size := by have := of_decide_eq_true hql; omega
          refine ⟨⟨by omega, by omega⟩, hlt, ⟨by omega, by omega⟩, i, hlt, rfl, rfl, hkl, ⟨by omega, by omega⟩, br_intro (fun _ => by trivial) (fun b1 => br_intro (fun _ => by trivial) (fun b2 => br_intro (fun _ => by trivial) (fun b3 => ⟨q + 1, ⟨hql, fun r hr => ?_⟩, by omega, i6_step (by omega), LeH.refl _⟩)))⟩
          rcases Nat.lt_or_ge r q with h | h
          · exact q2 r h
          · obtain rfl : r = q := by omega
            rw [byteAt_eq] at b1 b2 b3
            rintro (e | e | e)
            · rw [e] at b3; cases b3
            · rw [e] at b2; cases b2
            · rw [e] at b1; cases b1
        · obtain ⟨q1, q2⟩ := hq
          have hqe : q = (F i k).size := by have := of_decide_eq_false hqg; omega
          refine ⟨k + 1, ⟨hkl, fun j hj => ?_⟩, by omega, i6_step (by omega), LeH.refl _⟩
          rcases Nat.lt_or_ge j k with h | h
          · exact k2 j h
          · obtain rfl : j = k := by omega
            exact fun r hr => q2 r (by omega)
      · obtain ⟨k1, k2⟩ := hk
        have hke : k = (g i).len := by have := of_decide_eq_false hkg; omega
        refine ⟨i + 1, ⟨hlt, fun p hp j hj => ?_⟩, by omega, i6_step (by omega), LeH.refl _⟩
        rcases Nat.lt_or_ge p i with h | h
        · exact i2 p h j hj
        · obtain rfl : p = i := by omega
          exact k2 j (by omega)
    have hiL : i = L := by have := of_decide_eq_false hge; omega
    have hall : ∀ p, p < L → ∀ j, j < (g p).len → clean (F p j) := fun p hp => i2 p (by omega)
    refine ⟨m, g, F, S, false, rfl, rfl, ⟨h0, h1, hs⟩, br_intro (fun hne => ?_) (fun heq => ?_)⟩
    · exact br_intro (fun _ => by trivial) (fun h => by rw [hne] at h; cases h)
    have hz : (wrS c L g F).2 = 0 := bne_eq_false_iff_eq.1 heq
    obtain ⟨hsep, hf, hb, hw⟩ := wrS_zero hz
    have hl : (wrS c L g F).1.data.toList = rowsL c.toNat.toUInt8 g F L := by rw [hw, data_mkS]
    have hsz : (wrS c L g F).1.size = (rowsL c.toNat.toUInt8 g F L).length := bsize hl
    obtain ⟨u1, u2, u3⟩ := sep_u8 h0 h1 hsep
    generalize (wrS c L g F).1 = t at hl hsz
    refine br_intro (fun hL0 => ?_) (fun hLn => ?_)
    · have hL0 : L = 0 := by have := eq_of_beq hL0; omega
      refine br_intro (fun _ => by trivial) (fun _ => br_intro (fun _ => by trivial) (fun h => ?_))
      rw [hL0] at hl
      rw [eqS_iff.2 (show t = ByteArray.mk #[] from by rw [← mkS_toList t, hl]; rfl)] at h
      cases h
    have hLp : 0 < L := by have := beq_eq_false_iff_ne.1 hLn; omega
    obtain ⟨z1, z2⟩ := rowsE_last (c := c.toNat.toUInt8) (g := g) (F := F) hLp
    refine br_intro (fun h => ?_) (fun hpos => ?_)
    · have := eq_of_beq h; omega
    refine ⟨⟨⟨0, ByteArray.mk #[]⟩, ⟨Nat.zero_le _, rfl⟩, ⟨rfl, rfl⟩, LeH.refl _⟩, fun x hx => br_intro (fun hlt => ?_) (fun hge => ?_)⟩
    · obtain ⟨x1, x2⟩ := hx
      have hlt : x.i < t.size := by have := of_decide_eq_true hlt; omega
      have hw1 : IntKind.i64.wrap ((x.i : Int) + 1) = ((x.i + 1 : Nat) : Int) := by rw [w64 (by omega)]; omega
      have hxs : x.t.size ≤ 2 * x.i := by
        rw [bsize x2]
        have := crL_len (t.data.toList.take x.i)
        rw [List.length_take] at this
        omega
      have hbt : t.data.toList[x.i]? = some (bAt t x.i) := by
        rw [bAt, List.getElem?_eq_getElem (by rw [size_data]; exact hlt)]; rfl
      have hsb := sub_byte hbt
      have hs1 : (subS t x.i (x.i + 1)).size = 1 := by rw [bsize hsb]; rfl
      have hstep := crL_step hbt
      simp only [hw1, Int.toNat_natCast]
      refine ⟨⟨by omega, by omega⟩, br_intro (fun h10 => ?_) (fun h10 => ?_)⟩
      · have hb10 : bAt t x.i = 10 := by
          rw [byteAt_eq] at h10
          have := eq_of_beq h10
          exact UInt8.toNat.inj (by show (bAt t x.i).toNat = 10; omega)
        have e1 : (ByteArray.mk #[(13 : UInt8)]).size = 1 := rfl
        refine ⟨by omega, ⟨by omega, by omega⟩, ⟨by omega, by omega⟩, by rw [size_catS', e1, hs1]; omega, ⟨x.i + 1, catS (catS x.t (ByteArray.mk #[13])) (subS t x.i (x.i + 1))⟩, ⟨hlt, ?_⟩, by show t.size - (x.i + 1) < _; omega, ⟨rfl, rfl⟩, LeH.refl _⟩
        show (catS _ _).data.toList = crL (t.data.toList.take (x.i + 1))
        rw [toList_catS, toList_catS, hsb, x2, hstep, hb10, if_pos rfl]
        simp
      · have hb10 : ¬ bAt t x.i = 10 := fun e => by rw [byteAt_eq, e] at h10; cases h10
        refine ⟨⟨by omega, by omega⟩, ⟨by omega, by omega⟩, by rw [hs1]; omega, ⟨x.i + 1, catS x.t (subS t x.i (x.i + 1))⟩, ⟨hlt, ?_⟩, by show t.size - (x.i + 1) < _; omega, ⟨rfl, rfl⟩, LeH.refl _⟩
        show (catS _ _).data.toList = crL (t.data.toList.take (x.i + 1))
        rw [toList_catS, hsb, x2, hstep, if_neg hb10]
    · obtain ⟨x1, x2⟩ := hx
      have hxe : x.i = t.size := by have := of_decide_eq_false hge; omega
      rw [hxe, ← size_data, List.take_length, hl] at x2
      have hxs : x.t.size ≤ 2 * t.size := by
        rw [bsize x2]
        have := crL_len (rowsL c.toNat.toUInt8 g F L)
        omega
      rw [rowsE_cr u2 hall] at x2
      have hw1 : IntKind.i64.wrap ((t.size : Int) - 1) = ((t.size - 1 : Nat) : Int) := by rw [w64 (by omega)]; omega
      simp only [hw1, Int.toNat_natCast]
      have hcut : (subS t 0 (t.size - 1)).data.toList = rowsE c.toNat.toUInt8 g F (fun i => if i + 1 = L then [] else [10]) L := by
        rw [toList_sub, List.drop_zero, Nat.sub_zero, hl, hsz, z1]
      have hcs : (subS t 0 (t.size - 1)).size = t.size - 1 := by rw [size_subS]; omega
      refine ⟨⟨h0, h1, by omega⟩, fun rs b code g2 a2 n15 n16 S2 hrd hlen => ⟨⟨by omega, by omega⟩, ⟨h0, h1, by omega⟩, fun rs3 b3 code3 g3 a3 n25 n26 S3 hrd3 hlen3 => ?_⟩⟩
      obtain ⟨rfl, rfl, rfl⟩ := rd_of_wr h0 h1 hsep hf hb (fun i hi => .inr (.inl rfl)) x2 hrd
      obtain ⟨rfl, rfl, rfl⟩ := rd_of_wr h0 h1 hsep hf hb (fun i hi => by
        by_cases h : i + 1 = L
        · exact .inr (.inr ⟨h, if_pos h⟩)
        · exact .inl (if_neg h)) hcut hrd3
      refine br_intro (fun _ => br_intro (fun _ => ?_) (fun h => by cases h)) (fun h => by cases h)
      have lens : ∀ {g' : Nat → RW}, (∀ i, i < (listR g F L).length → (g' i).len = ((listR g F L).getD i []).length) → (listR g F L).length ≤ 1099511627776 ∧ ∀ i, i < (listR g F L).length → (g' i).len ≤ 1099511627776 := fun {g'} hl' => ⟨by rw [listR_len]; omega, fun i hi => by
        rw [hl' i hi]
        rw [listR_len] at hi
        rw [listR_row hi]
        have := small_rlen hs hi
        omega⟩
      refine ⟨g2, g, atR (listR g F L), F, S2, S, true, false, rfl, rfl, by simp, lens hlen, ?_⟩
      rw [sameV_yes (same_list hlen)]
      refine br_intro (fun _ => ⟨g3, g, atR (listR g F L), F, S3, S, true, false, rfl, rfl, by simp, lens hlen3, ?_⟩) (fun h => by cases h)
      rw [sameV_yes (same_list hlen3)]
      exact br_intro (fun _ => by trivial) (fun h => by cases h))

end Go.Proofs.YtdokphikobfakaaDoor

