/- Csv: a quoted field is read: its condition. -/
import Derived.Test.YtdokphikobfakaaDoorQ
namespace Go.Sp
open Go.Eng

/-- What stands in quotes, and what stands behind them. -/
def quotedL : List UInt8 → Option (List UInt8 × List UInt8)
  | [] => none
  | [b] => if b = 34 then some ([], []) else none
  | b :: d :: l =>
    if b = 34 then (if d = 34 then (quotedL l).map fun p => (34 :: p.1, p.2) else some ([], d :: l))
    else (quotedL (d :: l)).map fun p => (b :: p.1, p.2)

/-- What reading a field makes of a reader. -/
structure FR where
  t : ByteArray
  pos : Nat
  bad : Int

/-- A quoted field from there. -/
noncomputable def qR (s : ByteArray) (pos : Nat) : FR :=
  match quotedL (s.data.toList.drop (pos + 1)) with
  | some (t, r) => ⟨mkS t, s.size - r.length, -1⟩
  | none => ⟨ByteArray.mk #[], pos, s.size⟩

end Go.Sp
namespace Go.Eng
open Go.Sp Go.Proofs.YtdokphikobfakaaDoor

/-- A reader. -/
abbrev rdB (n : Nat) (s : ByteArray) (pos : Nat) (c : Int) (bad : Int) (own : Bool) : Blk := ⟨n, .cells [.v (.string s), .v (.int .i64 (pos : Int)), .v (.int .u8 c), .v (.int .i64 bad)] 54, own⟩

/-- On the way through a quoted field. -/
structure QX where
  r : ByteArray
  B : ByteArray
  S : List Nat

def quoJ (s : ByteArray) (pos : Nat) : Nat → TT → HH → LI := fun b T H =>
  match T.get 3 with
  | some (.ptr _ m _) => .inv QX (fun x => ((4, .v (.string x.r)) :: keepT [0, 3] T, H.set 1 (bB m x.B x.S)))
      (fun x => x.r.size + x.B.size ≤ s.size ∧ quotedL (s.data.toList.drop (pos + 1)) = (quotedL x.r.data.toList).map fun p => (x.B.data.toList ++ p.1, p.2)) (fun x => x.r.size)
  | _ => .unroll 0

/-- Where a quote stands. -/
def ix1F : List AV → Option AV
  | [.v (.string s), .v (.string t)] => (match eqS t (ByteArray.mk #[34]) with | true => some (.v (.int .i64 (Lib.indexByte s.data.toList 34))) | false => none)
  | _ => none

end Go.Eng
namespace Go.Proofs.YtdokphikobfakaaDoor
open Go Go.Eng Go.Sp
set_option linter.unusedVariables false
set_option linter.unusedSimpArgs false

theorem ix1_ok : POk Tryd.prog 55 ix1F := POk.of_lc (enters_of (c := body Tryd.f55) Tryd.func55 rfl (by kernel_rfl)) fun args v h => by
  unfold ix1F at h
  split at h
  · rename_i s t
    split at h
    · rename_i ht
      have ht := eqS_iff.1 ht
      subst ht
      cases h
      refine ⟨enters_of (c := body Tryd.f55) Tryd.func55 rfl (by kernel_rfl), fun w hw => (Go.Proofs.Tryd.stringslite_Index_one s 34 w).mono fun e w' hq => ?_⟩
      obtain ⟨rfl, rfl⟩ := hq
      exact ⟨_, [], rfl, rfl, (HeapOk.enter hw).toExt⟩
    · cases h
  · cases h

def tqa : Tbl := (55, .pure ix1F) :: (32, .pure preF) :: (16, .gen wbH) :: (19, .gen wsH) :: (20, .gen bstrH) :: []

theorem tqa_ok : TblOk Tryd.prog tqa := ⟨ix1_ok, pre_ok, wbH_ok, wsH_ok, bstrH_ok, trivial⟩


def c57I : Handler := inlH tab tqa noinv 2 Tryd.f57 2

set_option maxRecDepth 100000 in
theorem c57_ok : HOk Tryd.prog 57 c57I :=
  inl_ok (tbl := tqa) tab_ok tqa_ok mixed noinv 2 _ 2 Tryd.func57 rfl Tryd.ntmps57 (by decide) (by kernel_rfl) (Nat.le_of_ble_eq_true rfl)


def tqb : Tbl := (57, .gen c57I) :: tqa

theorem tqb_ok : TblOk Tryd.prog tqb := ⟨c57_ok, tqa_ok⟩


def c44I : Handler := inlH tab tqb noinv 2 Tryd.f44 2

set_option maxRecDepth 100000 in
theorem c44_ok : HOk Tryd.prog 44 c44I :=
  inl_ok (tbl := tqb) tab_ok tqb_ok mixed noinv 2 _ 2 Tryd.func44 rfl Tryd.ntmps44 (by decide) (by kernel_rfl) (Nat.le_of_ble_eq_true rfl)



def c35I : Handler := inlH tab [] noinv 2 Tryd.f35 2

set_option maxRecDepth 100000 in
theorem c35_ok : HOk Tryd.prog 35 c35I :=
  inl_ok (tbl := []) tab_ok trivial mixed noinv 2 _ 2 Tryd.func35 rfl Tryd.ntmps35 (by decide) (by kernel_rfl) (Nat.le_of_ble_eq_true rfl)


def tqc : Tbl := (44, .gen c44I) :: (35, .gen c35I) :: tqb

theorem tqc_ok : TblOk Tryd.prog tqc := ⟨c44_ok, c35_ok, tqb_ok⟩


set_option maxRecDepth 100000 in
theorem quo0_vc (n : Nat) (s : ByteArray) (pos : Nat) (c : Int) {R : AV → HH → Prop} (h : (∀ (n1 : Nat), n = n ∧ n = n ∧ ((0 : Int) ≤ IntKind.i64.wrap ((↑pos : Int) + (1 : Int)) ∧ IntKind.i64.wrap ((↑pos : Int) + (1 : Int)) ≤ (↑s.size : Int)) ∧ s.size ≤ s.size ∧ (∃ (x : QX), (x.1.size + x.2.size ≤ s.size ∧ quotedL (List.drop (pos + (1 : Nat)) s.data.toList) = Option.map (fun (p : List UInt8 × List UInt8) => (x.2.data.toList ++ p.fst, p.snd)) (quotedL x.1.data.toList)) ∧ ((AV.v (Value.string (subS s (IntKind.i64.wrap ((↑pos : Int) + (1 : Int))).toNat s.size))).den = (AV.v (Value.string x.1)).den ∧ (AV.ptr (0 : Nat) n (0 : Nat)).den = (AV.ptr (0 : Nat) n (0 : Nat)).den ∧ (AV.ptr (1 : Nat) n1 (0 : Nat)).den = (AV.ptr (1 : Nat) n1 (0 : Nat)).den ∧ True) ∧ LeH [Blk.mk n (Cont.cells [AV.v (Value.string s), AV.v (Value.int IntKind.i64 (↑pos : Int)), AV.v (Value.int IntKind.u8 c), AV.v (Value.int IntKind.i64 (-1 : Int))] (54 : Nat)) true, Blk.mk n1 (Cont.cells [AV.v (Value.pointer none), AV.v (Value.slice none (0 : Nat) (0 : Nat))] (41 : Nat)) true] [Blk.mk n (Cont.cells [AV.v (Value.string s), AV.v (Value.int IntKind.i64 (↑pos : Int)), AV.v (Value.int IntKind.u8 c), AV.v (Value.int IntKind.i64 (-1 : Int))] (54 : Nat)) true, Blk.mk n1 (Cont.res ((Nat × ByteArray) × List Nat) ((n1, x.2), x.S) (fun (x : (Nat × ByteArray) × List Nat) => x.snd) (packI bldC)) true]) ∧ ∀ (x : QX), x.1.size + x.2.size ≤ s.size ∧ quotedL (List.drop (pos + (1 : Nat)) s.data.toList) = Option.map (fun (p : List UInt8 × List UInt8) => (x.2.data.toList ++ p.fst, p.snd)) (quotedL x.1.data.toList) → br (decide (Lib.indexByte x.1.data.toList (34 : UInt8) ≥ (0 : Int))) (((0 : Int) ≤ Lib.indexByte x.1.data.toList (34 : UInt8) ∧ Lib.indexByte x.1.data.toList (34 : UInt8) ≤ (↑x.1.size : Int)) ∧ ((0 : Int) ≤ IntKind.i64.wrap (Lib.indexByte x.1.data.toList (34 : UInt8) + (1 : Int)) ∧ IntKind.i64.wrap (Lib.indexByte x.1.data.toList (34 : UInt8) + (1 : Int)) ≤ (↑x.1.size : Int)) ∧ x.1.size ≤ x.1.size ∧ ∃ (B : ByteArray), ((∃ (S : List Nat), some (Blk.mk n1 (Cont.res ((Nat × ByteArray) × List Nat) ((n1, x.2), x.S) (fun (x : (Nat × ByteArray) × List Nat) => x.snd) (packI bldC)) true) = some (Blk.mk n1 (Cont.res ((Nat × ByteArray) × List Nat) ((n1, B), S) (fun (x : (Nat × ByteArray) × List Nat) => x.snd) (packI bldC)) true)) ∨ B.size = (0 : Nat) ∧ some (Blk.mk n1 (Cont.res ((Nat × ByteArray) × List Nat) ((n1, x.2), x.S) (fun (x : (Nat × ByteArray) × List Nat) => x.snd) (packI bldC)) true) = some (Blk.mk n1 (Cont.cells [AV.v (Value.pointer none), AV.v (Value.slice none (0 : Nat) (0 : Nat))] (41 : Nat)) true)) ∧ B.size + (subS x.1 (0 : Nat) (Lib.indexByte x.1.data.toList (34 : UInt8)).toNat).size ≤ (35184372088832 : Nat) ∧ ∀ (S' : List Nat), br (!Lib.hasPrefix (subS x.1 (IntKind.i64.wrap (Lib.indexByte x.1.data.toList (34 : UInt8) + (1 : Int))).toNat x.1.size).data.toList (ByteArray.mk #[(34 : UInt8)]).data.toList) (n = n ∧ n = n ∧ ∃ (B_1 : ByteArray), ((∃ (S : List Nat), some (Blk.mk n1 (Cont.res ((Nat × ByteArray) × List Nat) ((n1, catS B (subS x.1 (0 : Nat) (Lib.indexByte x.1.data.toList (34 : UInt8)).toNat)), S') (fun (x : (Nat × ByteArray) × List Nat) => x.snd) (packI bldC)) true) = some (Blk.mk n1 (Cont.res ((Nat × ByteArray) × List Nat) ((n1, B_1), S) (fun (x : (Nat × ByteArray) × List Nat) => x.snd) (packI bldC)) true)) ∨ B_1.size = (0 : Nat) ∧ some (Blk.mk n1 (Cont.res ((Nat × ByteArray) × List Nat) ((n1, catS B (subS x.1 (0 : Nat) (Lib.indexByte x.1.data.toList (34 : UInt8)).toNat)), S') (fun (x : (Nat × ByteArray) × List Nat) => x.snd) (packI bldC)) true) = some (Blk.mk n1 (Cont.cells [AV.v (Value.pointer none), AV.v (Value.slice none (0 : Nat) (0 : Nat))] (41 : Nat)) true)) ∧ ∀ (S' : List Nat), R (AV.v (Value.string B_1)) [Blk.mk n (Cont.cells [AV.v (Value.string s), AV.v (Value.int IntKind.i64 (IntKind.i64.wrap ((↑s.size : Int) - (↑(subS x.1 (IntKind.i64.wrap (Lib.indexByte x.1.data.toList (34 : UInt8) + (1 : Int))).toNat x.1.size).size : Int)))), AV.v (Value.int IntKind.u8 c), AV.v (Value.int IntKind.i64 (-1 : Int))] (54 : Nat)) true, Blk.mk n1 (Cont.res ((Nat × ByteArray) × List Nat) ((n1, B_1), S') (fun (x : (Nat × ByteArray) × List Nat) => x.snd) (packI bldC)) true]) (∃ (B_1 : ByteArray), ((∃ (S : List Nat), some (Blk.mk n1 (Cont.res ((Nat × ByteArray) × List Nat) ((n1, catS B (subS x.1 (0 : Nat) (Lib.indexByte x.1.data.toList (34 : UInt8)).toNat)), S') (fun (x : (Nat × ByteArray) × List Nat) => x.snd) (packI bldC)) true) = some (Blk.mk n1 (Cont.res ((Nat × ByteArray) × List Nat) ((n1, B_1), S) (fun (x : (Nat × ByteArray) × List Nat) => x.snd) (packI bldC)) true)) ∨ B_1.size = (0 : Nat) ∧ some (Blk.mk n1 (Cont.res ((Nat × ByteArray) × List Nat) ((n1, catS B (subS x.1 (0 : Nat) (Lib.indexByte x.1.data.toList (34 : UInt8)).toNat)), S') (fun (x : (Nat × ByteArray) × List Nat) => x.snd) (packI bldC)) true) = some (Blk.mk n1 (Cont.cells [AV.v (Value.pointer none), AV.v (Value.slice none (0 : Nat) (0 : Nat))] (41 : Nat)) true)) ∧ (0 : Int) ≤ (34 : Int) ∧ (34 : Int) ≤ (255 : Int) ∧ B_1.size ≤ (35184372088832 : Nat) ∧ ∀ (S' : List Nat), ((0 : Int) ≤ (1 : Int) ∧ (1 : Int) ≤ (↑(subS x.1 (IntKind.i64.wrap (Lib.indexByte x.1.data.toList (34 : UInt8) + (1 : Int))).toNat x.1.size).size : Int)) ∧ (subS x.1 (IntKind.i64.wrap (Lib.indexByte x.1.data.toList (34 : UInt8) + (1 : Int))).toNat x.1.size).size ≤ (subS x.1 (IntKind.i64.wrap (Lib.indexByte x.1.data.toList (34 : UInt8) + (1 : Int))).toNat x.1.size).size ∧ ∃ (x' : QX), (x'.1.size + x'.2.size ≤ s.size ∧ quotedL (List.drop (pos + (1 : Nat)) s.data.toList) = Option.map (fun (p : List UInt8 × List UInt8) => (x'.2.data.toList ++ p.fst, p.snd)) (quotedL x'.1.data.toList)) ∧ x'.1.size < x.1.size ∧ ((AV.v (Value.string (subS (subS x.1 (IntKind.i64.wrap (Lib.indexByte x.1.data.toList (34 : UInt8) + (1 : Int))).toNat x.1.size) (1 : Nat) (subS x.1 (IntKind.i64.wrap (Lib.indexByte x.1.data.toList (34 : UInt8) + (1 : Int))).toNat x.1.size).size))).den = (AV.v (Value.string x'.1)).den ∧ (AV.ptr (0 : Nat) n (0 : Nat)).den = (AV.ptr (0 : Nat) n (0 : Nat)).den ∧ (AV.ptr (1 : Nat) n1 (0 : Nat)).den = (AV.ptr (1 : Nat) n1 (0 : Nat)).den ∧ True) ∧ LeH [Blk.mk n (Cont.cells [AV.v (Value.string s), AV.v (Value.int IntKind.i64 (↑pos : Int)), AV.v (Value.int IntKind.u8 c), AV.v (Value.int IntKind.i64 (-1 : Int))] (54 : Nat)) true, Blk.mk n1 (Cont.res ((Nat × ByteArray) × List Nat) ((n1, pushB B_1 (Nat.toUInt8 (34 : Nat))), S') (fun (x : (Nat × ByteArray) × List Nat) => x.snd) (packI bldC)) true] [Blk.mk n (Cont.cells [AV.v (Value.string s), AV.v (Value.int IntKind.i64 (↑pos : Int)), AV.v (Value.int IntKind.u8 c), AV.v (Value.int IntKind.i64 (-1 : Int))] (54 : Nat)) true, Blk.mk n1 (Cont.res ((Nat × ByteArray) × List Nat) ((n1, x'.2), x'.S) (fun (x : (Nat × ByteArray) × List Nat) => x.snd) (packI bldC)) true])) (n = n ∧ n = n ∧ R (AV.v (Value.string (ByteArray.mk #[]))) [Blk.mk n (Cont.cells [AV.v (Value.string s), AV.v (Value.int IntKind.i64 (↑pos : Int)), AV.v (Value.int IntKind.u8 c), AV.v (Value.int IntKind.i64 (↑s.size : Int))] (54 : Nat)) true, Blk.mk n1 (Cont.res ((Nat × ByteArray) × List Nat) ((n1, x.2), x.S) (fun (x : (Nat × ByteArray) × List Nat) => x.snd) (packI bldC)) true]))) : LC Tryd.prog 33 [.ptr 0 n 0] [rdB n s pos c (-1) true] R :=
  lc_of_exec (tbl := tqc) tab_ok tqc_ok mixed ((quoJ s pos)) 2 _ Tryd.func33 rfl Tryd.ntmps33 (by decide) (by kernel_rfl) (Nat.le_of_ble_eq_true rfl) (@Eq.mpr (execN tab tqc ((quoJ s pos)) 2 Tryd.f33.ntmps [] none 0 (body Tryd.f33) (argsT [.ptr 0 n 0] 0) [rdB n s pos c (-1) true] (post Tryd.f33 tab (retK R))) _ (by kernel_rfl) h)

end Go.Proofs.YtdokphikobfakaaDoor

namespace Go.Sp
open Go.Eng Go.Proofs.YtdokphikobfakaaDoor

theorem quotedL_ne {b : UInt8} (h : ¬ b = 34) (l : List UInt8) : quotedL (b :: l) = (quotedL l).map fun p => (b :: p.1, p.2) := by
  cases l with
  | nil => simp [quotedL, h]
  | cons d l => simp [quotedL, h]
theorem quotedL_two (l : List UInt8) : quotedL (34 :: 34 :: l) = (quotedL l).map fun p => (34 :: p.1, p.2) := by
  rw [quotedL, if_pos rfl, if_pos rfl]

theorem quotedL_none : ∀ {l : List UInt8}, (34 : UInt8) ∉ l → quotedL l = none
  | [], _ => rfl
  | b :: l, h => by
    have hb : ¬ b = 34 := fun e => h (e ▸ List.mem_cons_self)
    rw [quotedL_ne hb, quotedL_none fun hm => h (List.mem_cons_of_mem _ hm)]
    rfl

theorem quotedL_end {t : List UInt8} (ht : t.head? ≠ some 34) : ∀ {h : List UInt8}, (34 : UInt8) ∉ h → quotedL (h ++ 34 :: t) = some (h, t)
  | [], _ => by
    cases t with
    | nil => rfl
    | cons d m =>
      have hd : ¬ d = 34 := fun e => ht (by rw [e]; rfl)
      rw [List.nil_append, quotedL, if_pos rfl, if_neg hd]
  | b :: h, hm => by
    have hb : ¬ b = 34 := fun e => hm (e ▸ List.mem_cons_self)
    rw [List.cons_append, quotedL_ne hb, quotedL_end ht fun hx => hm (List.mem_cons_of_mem _ hx)]
    rfl

theorem quotedL_twice {m : List UInt8} : ∀ {h : List UInt8}, (34 : UInt8) ∉ h → quotedL (h ++ 34 :: 34 :: m) = (quotedL m).map fun p => (h ++ 34 :: p.1, p.2)
  | [], _ => by
    rw [List.nil_append, quotedL_two]
    rfl
  | b :: h, hm => by
    have hb : ¬ b = 34 := fun e => hm (e ▸ List.mem_cons_self)
    rw [List.cons_append, quotedL_ne hb, quotedL_twice fun hx => hm (List.mem_cons_of_mem _ hx), Option.map_map]
    rfl

theorem qR_some {s : ByteArray} {pos : Nat} {t r : List UInt8} (h : quotedL (s.data.toList.drop (pos + 1)) = some (t, r)) : qR s pos = ⟨mkS t, s.size - r.length, -1⟩ := by
  unfold qR
  rw [h]
theorem qR_none {s : ByteArray} {pos : Nat} (h : quotedL (s.data.toList.drop (pos + 1)) = none) : qR s pos = ⟨ByteArray.mk #[], pos, s.size⟩ := by
  unfold qR
  rw [h]

/-- Where a byte stands first. -/
theorem ixb_split (c : UInt8) : ∀ {l : List UInt8}, c ∈ l → ∃ k : Nat, Lib.indexByte l c = (k : Int) ∧ k < l.length ∧ c ∉ l.take k ∧ l = l.take k ++ c :: l.drop (k + 1)
  | b :: l, h => by
    rw [Lib.indexByte]
    by_cases hb : b = c
    · subst hb
      exact ⟨0, by simp, by simp, by simp, by simp⟩
    · rw [if_neg (by simpa using hb)]
      have hl : c ∈ l := by
        rcases List.mem_cons.1 h with e | h
        · exact absurd e.symm hb
        · exact h
      obtain ⟨k, h1, h2, h3, h4⟩ := ixb_split c hl
      refine ⟨k + 1, ?_, by simp <;> omega, ?_, ?_⟩
      · rw [h1, if_neg (by simp <;> omega)]; omega
      · rw [List.take_succ_cons, List.mem_cons]
        rintro (e | e)
        · exact hb e.symm
        · exact h3 e
      · rw [List.take_succ_cons, List.drop_succ_cons, List.cons_append, ← h4]

theorem toList_sub (s : ByteArray) (a b : Nat) : (subS s a b).data.toList = (s.data.toList.drop a).take (b - a) := by simp [subS, mkS]
theorem toList_subE (s : ByteArray) (a : Nat) : (subS s a s.size).data.toList = s.data.toList.drop a := by
  rw [toList_sub]
  apply List.take_of_length_le
  rw [List.length_drop]
  have : s.data.toList.length = s.size := Array.length_toList
  omega

theorem pre_head {l : List UInt8} : Lib.hasPrefix l [34] = true ↔ l.head? = some 34 := by
  cases l with
  | nil => simp [Lib.hasPrefix]
  | cons b l =>
    have : Lib.hasPrefix (b :: l) [34] = ((34 : UInt8) == b) := by simp [Lib.hasPrefix, List.isPrefixOf]
    rw [this, beq_iff_eq, List.head?_cons, Option.some.injEq]
    exact ⟨Eq.symm, Eq.symm⟩

end Go.Sp
namespace Go.Eng
open Go.Sp Go.Proofs.YtdokphikobfakaaDoor

def qH : Handler := fun _ args H K =>
  match args with
  | [.ptr id n 0] => ∃ (s : ByteArray) (pos : Nat) (c : Int), nth H id = some (rdB n s pos c (-1) true) ∧ pos < s.size ∧ s.size ≤ 4294967296 ∧ K (.ret (.v (.string (qR s pos).t))) (H.set id (rdB n s (qR s pos).pos c (qR s pos).bad true))
  | _ => False
end Go.Eng
namespace Go.Proofs.YtdokphikobfakaaDoor
open Go Go.Eng Go.Sp
set_option linter.unusedVariables false
set_option linter.unusedSimpArgs false

theorem q34 : (ByteArray.mk #[(34 : UInt8)]).data.toList = [34] := rfl

set_option maxRecDepth 20000 in
set_option maxHeartbeats 1000000 in
theorem quo_lc (n : Nat) (s : ByteArray) (pos : Nat) (c : Int) (hp : pos < s.size) (hs : s.size ≤ 4294967296) : LC Tryd.prog 33 [.ptr 0 n 0] [rdB n s pos c (-1) true] (fun z H' => z = .v (.string (qR s pos).t) ∧ LeH H' [rdB n s (qR s pos).pos c (qR s pos).bad true]) :=
  quo0_vc n s pos c (by
    intro n1
    have hw : IntKind.i64.wrap ((pos : Int) + 1) = ((pos + 1 : Nat) : Int) := by rw [w64 (by omega)]; omega
    simp only [hw, Int.toNat_natCast, true_and, and_true]
    refine ⟨⟨by omega, by omega⟩, Nat.le_refl _, ⟨⟨subS s (pos + 1) s.size, ByteArray.mk #[], [n1]⟩, ⟨?_, ?_⟩, rfl, leAt [0, 1] (by decide) ⟨LeB.refl _, bRaw_pack rfl, trivial⟩⟩, fun x hx => ?_⟩
    · show (subS s (pos + 1) s.size).size + 0 ≤ s.size
      rw [size_subS]; omega
    · show _ = Option.map _ (quotedL (subS s (pos + 1) s.size).data.toList)
      rw [toList_subE]
      cases quotedL (s.data.toList.drop (pos + 1)) <;> rfl
    obtain ⟨x1, x2⟩ := hx
    have hrs : x.r.data.toList.length = x.r.size := Array.length_toList
    refine br_intro (fun hge => ?_) (fun hlt => ?_)
    · have hmem := (byte_mem 34 x.r.data.toList).1 (of_decide_eq_true hge)
      obtain ⟨k, k1, k2, k3, k4⟩ := ixb_split 34 hmem
      have hw2 : IntKind.i64.wrap (((k : Nat) : Int) + 1) = ((k + 1 : Nat) : Int) := by rw [w64 (by omega)]; omega
      simp only [k1, hw2, Int.toNat_natCast, toList_subE, q34, true_and, and_true]
      have ht : (subS x.r 0 k).data.toList = x.r.data.toList.take k := by rw [toList_sub]; simp
      have hsz0 : (subS x.r 0 k).size = k := by rw [size_subS]; omega
      have hsz1 : (subS x.r (k + 1) x.r.size).size = x.r.size - (k + 1) := by rw [size_subS]; omega
      refine ⟨⟨by omega, by omega⟩, ⟨by omega, by omega⟩, Nat.le_refl _, x.B, .inl ⟨_, rfl⟩, by omega, fun S1 => br_intro (fun hno => ?_) (fun hyes => ?_)⟩
      · have hh : (x.r.data.toList.drop (k + 1)).head? ≠ some 34 := fun e => by rw [pre_head.2 e] at hno; cases hno
        have hq : quotedL (s.data.toList.drop (pos + 1)) = some (x.B.data.toList ++ x.r.data.toList.take k, x.r.data.toList.drop (k + 1)) := by
          rw [x2, k4, quotedL_end hh k3]
          simp only [Option.map_some]
          rw [← k4]
        rw [qR_some hq]
        refine ⟨_, .inl ⟨_, rfl⟩, fun S2 => ⟨?_, ?_⟩⟩
        · rw [← ht, ← toList_catS]
          rfl
        · have hz : ((s.size : Int) - ((subS x.r (k + 1) x.r.size).size : Int)) = ((s.size - (x.r.data.toList.drop (k + 1)).length : Nat) : Int) := by
            rw [hsz1, List.length_drop, hrs]; omega
          rw [hz, w64 (by omega)]
          exact leAt [0] (by decide) ⟨LeB.refl _, trivial⟩
      · have hh : (x.r.data.toList.drop (k + 1)).head? = some 34 := pre_head.1 (by simpa using hyes)
        obtain ⟨m, hm⟩ : ∃ m, x.r.data.toList.drop (k + 1) = 34 :: m := by
          cases hd : x.r.data.toList.drop (k + 1) with
          | nil => rw [hd] at hh; cases hh
          | cons d m => rw [hd] at hh; cases hh; exact ⟨m, rfl⟩
        have hml : m.length + 1 = x.r.size - (k + 1) := by
          have := congrArg List.length hm
          rw [List.length_drop, hrs, List.length_cons] at this
          omega
        refine ⟨_, .inl ⟨_, rfl⟩, by decide, by decide, by rw [size_catS]; omega, fun S2 => ⟨⟨by decide, by omega⟩, Nat.le_refl _, ⟨subS (subS x.r (k + 1) x.r.size) 1 (subS x.r (k + 1) x.r.size).size, pushB (catS x.B (subS x.r 0 k)) 34, S2⟩, ⟨?_, ?_⟩, ?_, rfl, LeH.refl _⟩⟩
        · show (subS (subS x.r (k + 1) x.r.size) 1 _).size + (pushB (catS x.B (subS x.r 0 k)) 34).size ≤ s.size
          rw [size_pushB, size_catS, size_subS, hsz0, hsz1]
          omega
        · show _ = Option.map _ (quotedL (subS (subS x.r (k + 1) x.r.size) 1 (subS x.r (k + 1) x.r.size).size).data.toList)
          rw [x2, toList_subE, toList_subE, hm, List.drop_succ_cons, List.drop_zero, k4, hm, quotedL_twice k3, Option.map_map]
          show _ = Option.map (fun p : List UInt8 × List UInt8 => ((pushB (catS x.B (subS x.r 0 k)) 34).data.toList ++ p.1, p.2)) _
          rw [toList_pushB, toList_catS, ht]
          congr 1
          funext p
          simp
        · show (subS (subS x.r (k + 1) x.r.size) 1 _).size < x.r.size
          rw [size_subS, hsz1]
          omega
    · have hmem : (34 : UInt8) ∉ x.r.data.toList := fun hm => (of_decide_eq_false hlt) ((byte_mem 34 _).2 hm)
      have hq : quotedL (s.data.toList.drop (pos + 1)) = none := by rw [x2, quotedL_none hmem]; rfl
      rw [qR_none hq]
      exact ⟨rfl, leAt [0] (by decide) ⟨LeB.refl _, trivial⟩⟩)

theorem qH_ok : HOk Tryd.prog 33 qH := HOk.of_at (enters_of (c := body Tryd.f33) Tryd.func33 rfl (by kernel_rfl)) fun rs args H K hk => by
  unfold qH at hk
  split at hk
  · rename_i id n
    obtain ⟨s, pos, c, h1, h2, h3, hk⟩ := hk
    refine ⟨id, _, [.ptr 0 n 0], _, by rw [← nth_eq]; exact h1, rfl, quo_lc n s pos c h2 h3, fun z H' hz => ?_⟩
    obtain ⟨rfl, hle⟩ := hz
    exact ⟨_, _, [], rfl, by rw [List.append_nil]; exact hk, hle⟩
  · exact hk.elim
end Go.Proofs.YtdokphikobfakaaDoor

