/- View: what is cleaned and fitted. -/
import Derived.Test.YthkegefjmcipmaaDoorTab
import Derived.Test.YthkegefjmcipmaaDoorY1
import Derived.Test.YthkegefjmcipmaaDoorShelf
import Derived.Test.YthkegefjmcipmaaDoorA
namespace Go.Sp
open Go.Eng

/-- A byte that can be printed. -/
def cleanB (b : UInt8) : UInt8 := if b.toNat < 32 ∨ 126 < b.toNat then 63 else b

/-- A byte so many times. -/
def many (c n : Int) : ByteArray := mkI (List.replicate n.toNat c)

theorem size_many (c n : Int) : (many c n).size = n.toNat := by rw [many, mkI, size_mkS, List.length_map, List.length_replicate]

theorem many_one (c : Int) : mkI [c] = many c 1 := rfl

theorem many_succ (c : Int) {i : Nat} : catS (many c i) (mkI [c]) = many c ((i + 1 : Nat) : Int) := by
  simp only [many, mkI, catS, data_mkS, Int.toNat_natCast, List.map_replicate, List.map_cons, List.map_nil]
  rw [List.replicate_succ']

theorem many_nil (c : Int) {n : Int} (h : n ≤ 0) : many c n = ByteArray.mk #[] := by
  rw [many, show n.toNat = 0 by omega]; rfl

theorem subS_all (s : ByteArray) {n : Nat} (h : n = s.size) : subS s 0 (0 + n) = s := by
  subst h; rw [Nat.zero_add]; exact subS_zero s (Nat.le_refl _)

/-- What is fitted. -/
def fitS (s : ByteArray) (w k : Int) : ByteArray :=
  if w < 1 then ByteArray.mk #[]
  else if w < s.size then (if k = 1 then many 35 w else subS (mapB cleanB s) 0 w.toNat)
  else if k = 1 then catS (many 32 (w - s.size)) (mapB cleanB s)
  else if k = 2 ∨ k = 0 then catS (mapB cleanB s) (many 32 (w - s.size))
  else catS (catS (many 32 ((w - s.size).tdiv 2)) (mapB cleanB s)) (many 32 (w - s.size - (w - s.size).tdiv 2))

theorem repL (c : UInt8) : ∀ n, Lib.repeatL [c] n = List.replicate n c
  | 0 => rfl
  | n + 1 => by rw [Lib.repeatL, repL c n, List.replicate_succ]; rfl

theorem rep35 (n : Int) : mkS (Lib.repeatL [35] n.toNat) = many 35 n := by
  rw [repL, many, mkI, List.map_replicate]; rfl

theorem rep32 (n : Int) : mkS (Lib.repeatL [32] n.toNat) = many 32 n := by
  rw [repL, many, mkI, List.map_replicate]; rfl

theorem rep45 (n : Int) : mkS (Lib.repeatL [45] n.toNat) = many 45 n := by
  rw [repL, many, mkI, List.map_replicate]; rfl

theorem half2 {x : Int} (h : 0 ≤ x) : 0 ≤ x.tdiv 2 ∧ x.tdiv 2 ≤ x := by
  rw [Int.tdiv_eq_ediv_of_nonneg h]; omega

theorem fitA {s : ByteArray} {w k : Int} (h : ¬ w < 1) (h1 : w < s.size) (h2 : k = 1) : fitS s w k = many 35 w := by rw [fitS, if_neg h, if_pos h1, if_pos h2]
theorem fitB {s : ByteArray} {w k : Int} (h : ¬ w < 1) (h1 : w < s.size) (h2 : k ≠ 1) : fitS s w k = subS (mapB cleanB s) 0 w.toNat := by rw [fitS, if_neg h, if_pos h1, if_neg h2]
theorem fitC {s : ByteArray} {w k : Int} (h : ¬ w < 1) (h1 : ¬ w < s.size) (h2 : k = 1) : fitS s w k = catS (many 32 (w - s.size)) (mapB cleanB s) := by rw [fitS, if_neg h, if_neg h1, if_pos h2]
theorem fitD {s : ByteArray} {w k : Int} (h : ¬ w < 1) (h1 : ¬ w < s.size) (h2 : k ≠ 1) (h3 : k = 2 ∨ k = 0) : fitS s w k = catS (mapB cleanB s) (many 32 (w - s.size)) := by rw [fitS, if_neg h, if_neg h1, if_neg h2, if_pos h3]
theorem fitE {s : ByteArray} {w k : Int} (h : ¬ w < 1) (h1 : ¬ w < s.size) (h2 : k ≠ 1) (h3 : ¬ (k = 2 ∨ k = 0)) : fitS s w k = catS (catS (many 32 ((w - s.size).tdiv 2)) (mapB cleanB s)) (many 32 (w - s.size - (w - s.size).tdiv 2)) := by rw [fitS, if_neg h, if_neg h1, if_neg h2, if_neg h3]

/-- A text that can be printed whole. -/
def Cl (s : ByteArray) : Prop := ∀ b ∈ s.data.toList, cleanB b = b

theorem cleanB_cleanB (b : UInt8) : cleanB (cleanB b) = cleanB b := by
  unfold cleanB
  split
  · rfl
  · rfl

theorem Cl.clean {s : ByteArray} (h : Cl s) : mapB cleanB s = s := mapB_id h
theorem cl_map (s : ByteArray) : Cl (mapB cleanB s) := fun b hb => by
  rw [mapB, data_mkS] at hb
  obtain ⟨x, _, rfl⟩ := List.mem_map.1 hb
  exact cleanB_cleanB x
theorem cl_cat {a b : ByteArray} (ha : Cl a) (hb : Cl b) : Cl (catS a b) := fun x hx => by
  rw [catS, data_mkS, List.mem_append] at hx
  rcases hx with h | h
  · exact ha x h
  · exact hb x h
theorem cl_sub {a : ByteArray} (ha : Cl a) (i j : Nat) : Cl (subS a i j) := fun x hx => by
  rw [subS, data_mkS] at hx
  exact ha x (List.mem_of_mem_drop (List.mem_of_mem_take hx))
theorem cl_many {c : Int} (h : cleanB (UInt8.ofNat c.toNat) = UInt8.ofNat c.toNat) (n : Int) : Cl (many c n) := fun x hx => by
  rw [many, mkI, data_mkS, List.map_replicate] at hx
  rw [(List.mem_replicate.1 hx).2]; exact h

theorem cl_fit (s : ByteArray) (w k : Int) : Cl (fitS s w k) := by
  have h32 : ∀ n, Cl (many 32 n) := cl_many (by decide)
  have h35 : ∀ n, Cl (many 35 n) := cl_many (by decide)
  unfold fitS
  split
  · intro x hx; simp at hx
  · split
    · split
      · exact h35 _
      · exact cl_sub (cl_map s) _ _
    · split
      · exact cl_cat (h32 _) (cl_map s)
      · split
        · exact cl_cat (cl_map s) (h32 _)
        · exact cl_cat (cl_cat (h32 _) (cl_map s)) (h32 _)

theorem size_fit {s : ByteArray} {w k : Int} (h : 1 ≤ w) : ((fitS s w k).size : Int) = w := by
  unfold fitS
  rw [if_neg (by omega)]
  split
  · split
    · rw [size_many]; omega
    · rw [size_subS, size_mapB]; omega
  · have ht := half2 (x := w - s.size) (by omega)
    split
    · rw [size_catS, size_many, size_mapB]; omega
    · split
      · rw [size_catS, size_many, size_mapB]; omega
      · rw [size_catS, size_catS, size_many, size_many, size_mapB]; omega

theorem many_zero (c : Int) : many c 0 = ByteArray.mk #[] := many_nil c (by omega)
theorem cat_nil (a : ByteArray) : catS a (ByteArray.mk #[]) = a := by
  rw [catS]; simp [mkS_toList]
theorem nil_cat (a : ByteArray) : catS (ByteArray.mk #[]) a = a := by
  rw [catS]; simp [mkS_toList]

theorem fit_fit {s : ByteArray} {w k : Int} (h : 1 ≤ w) : fitS (fitS s w k) w k = fitS s w k := by
  have hz := size_fit (s := s) (k := k) h
  have hc := (cl_fit s w k).clean
  generalize fitS s w k = f at *
  unfold fitS
  rw [if_neg (by omega), if_neg (by omega), hc, show w - (f.size : Int) = 0 by omega]
  simp [many_zero, cat_nil, nil_cat]

theorem sub_cat_left {a b : ByteArray} : subS (catS a b) 0 (0 + a.size) = a := by
  rw [subS, catS, data_mkS, Nat.sub_zero, Nat.zero_add, List.drop_zero, List.take_left' (size_data a), mkS_toList]
theorem sub_cat_right {a b : ByteArray} : subS (catS a b) a.size (a.size + b.size) = b := by
  rw [subS, catS, data_mkS, List.drop_left' (size_data a), show a.size + b.size - a.size = b.size by omega, List.take_of_length_le (by rw [size_data]; omega), mkS_toList]
theorem sub_cat_mid {a b c : ByteArray} : subS (catS (catS a b) c) a.size (a.size + b.size) = b := by
  rw [subS, catS, catS, data_mkS, data_mkS, List.append_assoc, List.drop_left' (size_data a), show a.size + b.size - a.size = b.size by omega, List.take_left' (size_data b), mkS_toList]

theorem fit_in {s : ByteArray} {w k : Int} (h : 1 ≤ w) (hs : (s.size : Int) ≤ w) : ∃ j : Nat, (j : Int) + s.size ≤ w ∧ subS (fitS s w k) j (j + s.size) = mapB cleanB s := by
  have hm := size_mapB cleanB s
  have ht := half2 (x := w - s.size) (by omega)
  unfold fitS
  rw [if_neg (by omega), if_neg (by omega)]
  split
  · refine ⟨(w - s.size).toNat, by omega, ?_⟩
    have := sub_cat_right (a := many 32 (w - s.size)) (b := mapB cleanB s)
    rw [hm, size_many] at this; exact this
  · split
    · refine ⟨0, by omega, ?_⟩
      have := sub_cat_left (a := mapB cleanB s) (b := many 32 (w - s.size))
      rw [hm] at this; exact this
    · refine ⟨((w - s.size).tdiv 2).toNat, by omega, ?_⟩
      have := sub_cat_mid (a := many 32 ((w - s.size).tdiv 2)) (b := mapB cleanB s) (c := many 32 (w - s.size - (w - s.size).tdiv 2))
      rw [hm, size_many] at this; exact this

end Go.Sp
namespace Go.Proofs.YthkegefjmcipmaaDoor
open Go Go.Eng Go.Sp
set_option linter.unusedVariables false
set_option linter.unusedSimpArgs false

def repF : List AV → Option (Prop × AV)
  | [.v (.string s), .v (.int .i64 c)] => some ((0 ≤ c ∧ s.size ≤ 1 ∧ c ≤ 140737488355328), .v (.string (mkS (Lib.repeatL s.data.toList c.toNat))))
  | _ => none

theorem rep_ok : PrOk Tryd.prog 27 repF := ⟨enters_of (c := body Tryd.f27) Tryd.func27 rfl (by kernel_rfl), fun args p w h hp => by
  unfold repF at h
  split at h
  · rename_i s c
    cases h
    obtain ⟨k, rfl⟩ : ∃ k : Nat, c = (k : Int) := ⟨c.toNat, by have := hp.1; omega⟩
    have hm : s.size * k ≤ 140737488355328 := by
      have h1 := hp.2.1
      have h2 : (k : Int) ≤ 140737488355328 := hp.2.2
      calc s.size * k ≤ 1 * k := Nat.mul_le_mul_right _ h1
        _ ≤ _ := by omega
    refine (Go.Proofs.Tryd.strings_Repeat s k w (by have h2 : (k : Int) ≤ 140737488355328 := hp.2.2; omega) hm).mono fun e w' hq => ?_
    obtain ⟨rfl, hb⟩ := hq
    exact ⟨rfl, ⟨hb.os, hb.tape, hb.output, hb.size, fun k hk _ => hb.block k hk, trivial⟩⟩
  · cases h⟩


set_option maxRecDepth 100000 in
theorem clean_vc (s : ByteArray) {R : AV → Prop} (h : (∀ (n1 n2 : Nat), s.size ≤ n2 → (∃ (x : Nat), x ≤ s.size ∧ ((AV.v (Value.int IntKind.i64 (0 : Int))).den = (AV.v (Value.int IntKind.i64 (↑x : Int))).den ∧ (AV.sl (0 : Nat) n1 (0 : Nat) (1 : Nat) s.size n2).den = (AV.sl (0 : Nat) n1 (0 : Nat) (1 : Nat) s.size n2).den ∧ (AV.sl (0 : Nat) n1 (0 : Nat) (1 : Nat) s.size n2).den = (AV.sl (0 : Nat) n1 (0 : Nat) (1 : Nat) s.size n2).den ∧ (AV.v (Value.int IntKind.i64 (↑s.size : Int))).den = (AV.v (Value.int IntKind.i64 (↑s.size : Int))).den ∧ True) ∧ LeH [Blk.mk n1 (Cont.rows n2 [Col.ints IntKind.u8 (byteAt s)] (5 : Nat)) true] [Blk.mk n1 (Cont.rows n2 [Col.ints IntKind.u8 (half cleanB s x)] (5 : Nat)) true]) ∧ ∀ (n4 : Nat), n4 ≤ s.size → br (decide ((↑n4 : Int) < (↑s.size : Int))) (((0 : Int) ≤ (↑n4 : Int) ∧ (↑n4 : Int) < (↑s.size : Int)) ∧ n1 = n1 ∧ (0 : Nat) + (↑n4 : Int).toNat < n2 ∧ br (decide (half cleanB s n4 ((0 : Nat) + (↑n4 : Int).toNat) < (32 : Int))) (((0 : Int) ≤ (↑n4 : Int) ∧ (↑n4 : Int) < (↑s.size : Int)) ∧ n1 = n1 ∧ (0 : Nat) + (↑n4 : Int).toNat < n2 ∧ ∃ (x' : Nat), x' ≤ s.size ∧ s.size - x' < s.size - n4 ∧ ((AV.v (Value.int IntKind.i64 (IntKind.i64.wrap ((↑n4 : Int) + (1 : Int))))).den = (AV.v (Value.int IntKind.i64 (↑x' : Int))).den ∧ (AV.sl (0 : Nat) n1 (0 : Nat) (1 : Nat) s.size n2).den = (AV.sl (0 : Nat) n1 (0 : Nat) (1 : Nat) s.size n2).den ∧ (AV.sl (0 : Nat) n1 (0 : Nat) (1 : Nat) s.size n2).den = (AV.sl (0 : Nat) n1 (0 : Nat) (1 : Nat) s.size n2).den ∧ (AV.v (Value.int IntKind.i64 (↑s.size : Int))).den = (AV.v (Value.int IntKind.i64 (↑s.size : Int))).den ∧ True) ∧ LeH [Blk.mk n1 (Cont.rows n2 [Col.ints IntKind.u8 (upd (half cleanB s n4) ((0 : Nat) + (↑n4 : Int).toNat) (63 : Int))] (5 : Nat)) true] [Blk.mk n1 (Cont.rows n2 [Col.ints IntKind.u8 (half cleanB s x')] (5 : Nat)) true]) (br (decide (half cleanB s n4 ((0 : Nat) + (↑n4 : Int).toNat) > (126 : Int))) (((0 : Int) ≤ (↑n4 : Int) ∧ (↑n4 : Int) < (↑s.size : Int)) ∧ n1 = n1 ∧ (0 : Nat) + (↑n4 : Int).toNat < n2 ∧ ∃ (x' : Nat), x' ≤ s.size ∧ s.size - x' < s.size - n4 ∧ ((AV.v (Value.int IntKind.i64 (IntKind.i64.wrap ((↑n4 : Int) + (1 : Int))))).den = (AV.v (Value.int IntKind.i64 (↑x' : Int))).den ∧ (AV.sl (0 : Nat) n1 (0 : Nat) (1 : Nat) s.size n2).den = (AV.sl (0 : Nat) n1 (0 : Nat) (1 : Nat) s.size n2).den ∧ (AV.sl (0 : Nat) n1 (0 : Nat) (1 : Nat) s.size n2).den = (AV.sl (0 : Nat) n1 (0 : Nat) (1 : Nat) s.size n2).den ∧ (AV.v (Value.int IntKind.i64 (↑s.size : Int))).den = (AV.v (Value.int IntKind.i64 (↑s.size : Int))).den ∧ True) ∧ LeH [Blk.mk n1 (Cont.rows n2 [Col.ints IntKind.u8 (upd (half cleanB s n4) ((0 : Nat) + (↑n4 : Int).toNat) (63 : Int))] (5 : Nat)) true] [Blk.mk n1 (Cont.rows n2 [Col.ints IntKind.u8 (half cleanB s x')] (5 : Nat)) true]) (∃ (x' : Nat), x' ≤ s.size ∧ s.size - x' < s.size - n4 ∧ ((AV.v (Value.int IntKind.i64 (IntKind.i64.wrap ((↑n4 : Int) + (1 : Int))))).den = (AV.v (Value.int IntKind.i64 (↑x' : Int))).den ∧ (AV.sl (0 : Nat) n1 (0 : Nat) (1 : Nat) s.size n2).den = (AV.sl (0 : Nat) n1 (0 : Nat) (1 : Nat) s.size n2).den ∧ (AV.sl (0 : Nat) n1 (0 : Nat) (1 : Nat) s.size n2).den = (AV.sl (0 : Nat) n1 (0 : Nat) (1 : Nat) s.size n2).den ∧ (AV.v (Value.int IntKind.i64 (↑s.size : Int))).den = (AV.v (Value.int IntKind.i64 (↑s.size : Int))).den ∧ True) ∧ LeH [Blk.mk n1 (Cont.rows n2 [Col.ints IntKind.u8 (half cleanB s n4)] (5 : Nat)) true] [Blk.mk n1 (Cont.rows n2 [Col.ints IntKind.u8 (half cleanB s x')] (5 : Nat)) true]))) (n1 = n1 ∧ (0 : Nat) + s.size ≤ n2 ∧ R (AV.v (Value.string (mkI (List.map (fun (i : Nat) => half cleanB s n4 ((0 : Nat) + i)) (List.range s.size)))))))) : LC Tryd.prog 16 [.v (.string s)] [] (fun z_ _ => R z_) :=
  lc_of_exec (tbl := []) tab_ok trivial mixed (fun _ T H => .inv Nat (fun i => ((10, .v (.int .i64 (i : Int))) :: keepT [3, 8, 9] T, halfH cleanB s i H)) (fun i => i ≤ s.size) (fun i => s.size - i)) 2 _ Tryd.func16 rfl Tryd.ntmps16 (by decide) (by kernel_rfl) (Nat.le_of_ble_eq_true rfl) (@Eq.mpr (execN tab [] (fun _ T H => .inv Nat (fun i => ((10, .v (.int .i64 (i : Int))) :: keepT [3, 8, 9] T, halfH cleanB s i H)) (fun i => i ≤ s.size) (fun i => s.size - i)) 2 Tryd.f16.ntmps [] none 0 (body Tryd.f16) (argsT [.v (.string s)] 0) [] (post Tryd.f16 tab (retK (fun z_ _ => R z_)))) _ (by kernel_rfl) h)

set_option maxRecDepth 100000 in
theorem clean_lc (s : ByteArray) (hq : s.size ≤ 9223372036854775807) : LC Tryd.prog 16 [.v (.string s)] [] (fun z_ _ => z_ = .v (.string (mapB cleanB s))) :=
  clean_vc s (by
    intro n1 n2 hn
    simp only [true_and, and_true, br_iff, AV.den, Value.int.injEq, decide_eq_true_eq, decide_eq_false_iff_not, Nat.zero_add, Int.toNat_natCast, half_at]
    have nx : ∀ i : Nat, i < s.size → IntKind.i64.wrap ((i : Int) + 1) = ((i + 1 : Nat) : Int) := fun i hi => by rw [w64 (by omega)]; omega
    refine ⟨⟨0, by omega, rfl, leEq (by rw [half_zero])⟩, fun i hi => ⟨fun h => ?_, fun h => ?_⟩⟩
    · have go : ∀ g : Nat → Int, g = half cleanB s (i + 1) → ∃ x', x' ≤ s.size ∧ s.size - x' < s.size - i ∧ IntKind.i64.wrap ((i : Int) + 1) = (x' : Int) ∧ LeH [⟨n1, .rows n2 [.ints .u8 g] 5, true⟩] [⟨n1, .rows n2 [.ints .u8 (half cleanB s x')] 5, true⟩] := fun g hg => ⟨i + 1, by omega, by omega, nx i (by omega), leEq (by rw [hg])⟩
      refine ⟨⟨by omega, by omega⟩, by omega, fun h1 => ⟨⟨by omega, by omega⟩, by omega, go _ (half_upd ?_)⟩, fun h1 => ⟨fun h2 => ⟨⟨by omega, by omega⟩, by omega, go _ (half_upd ?_)⟩, fun h2 => go _ (half_same ?_)⟩⟩
      · rw [byteAt_eq] at h1; rw [cleanB, if_pos (by omega)]; rfl
      · rw [byteAt_eq] at h2; rw [cleanB, if_pos (by omega)]; rfl
      · rw [byteAt_eq] at h1 h2; rw [cleanB, if_neg (by omega)]
    · obtain rfl : i = s.size := by omega
      refine ⟨by omega, ?_⟩
      have := half_read cleanB s
      simp only [Nat.zero_add] at this
      rw [this])

def cleanH : List AV → Option (Prop × AV)
  | [.v (.string s)] => some (s.size ≤ 9223372036854775807, .v (.string (mapB cleanB s)))
  | _ => none

theorem clean_ok : PrOk Tryd.prog 16 cleanH := PrOk.of_lc (enters_of (c := body Tryd.f16) Tryd.func16 rfl (by kernel_rfl)) (by
  intro args p h hp
  unfold cleanH at h
  split at h
  · cases h; exact clean_lc _ hp
  · cases h)



set_option maxRecDepth 100000 in
theorem rclean_vc (s : ByteArray) {R : AV → Prop} (h : (∀ (n1 n2 : Nat), s.size ≤ n2 → (∃ (x : Nat), x ≤ s.size ∧ ((AV.v (Value.int IntKind.i64 (0 : Int))).den = (AV.v (Value.int IntKind.i64 (↑x : Int))).den ∧ (AV.sl (0 : Nat) n1 (0 : Nat) (1 : Nat) s.size n2).den = (AV.sl (0 : Nat) n1 (0 : Nat) (1 : Nat) s.size n2).den ∧ True) ∧ LeH [Blk.mk n1 (Cont.rows n2 [Col.ints IntKind.u8 (byteAt s)] (5 : Nat)) true] [Blk.mk n1 (Cont.rows n2 [Col.ints IntKind.u8 (half cleanB s x)] (5 : Nat)) true]) ∧ ∀ (n4 : Nat), n4 ≤ s.size → br (decide ((↑n4 : Int) < (↑s.size : Int))) (((0 : Int) ≤ (↑n4 : Int) ∧ (↑n4 : Int) < (↑s.size : Int)) ∧ n1 = n1 ∧ (0 : Nat) + (↑n4 : Int).toNat < n2 ∧ br (decide (half cleanB s n4 ((0 : Nat) + (↑n4 : Int).toNat) < (32 : Int))) (((0 : Int) ≤ (↑n4 : Int) ∧ (↑n4 : Int) < (↑s.size : Int)) ∧ n1 = n1 ∧ (0 : Nat) + (↑n4 : Int).toNat < n2 ∧ ∃ (x' : Nat), x' ≤ s.size ∧ s.size - x' < s.size - n4 ∧ ((AV.v (Value.int IntKind.i64 (IntKind.i64.wrap ((↑n4 : Int) + (1 : Int))))).den = (AV.v (Value.int IntKind.i64 (↑x' : Int))).den ∧ (AV.sl (0 : Nat) n1 (0 : Nat) (1 : Nat) s.size n2).den = (AV.sl (0 : Nat) n1 (0 : Nat) (1 : Nat) s.size n2).den ∧ True) ∧ LeH [Blk.mk n1 (Cont.rows n2 [Col.ints IntKind.u8 (upd (half cleanB s n4) ((0 : Nat) + (↑n4 : Int).toNat) (63 : Int))] (5 : Nat)) true] [Blk.mk n1 (Cont.rows n2 [Col.ints IntKind.u8 (half cleanB s x')] (5 : Nat)) true]) (((0 : Int) ≤ (↑n4 : Int) ∧ (↑n4 : Int) < (↑s.size : Int)) ∧ n1 = n1 ∧ (0 : Nat) + (↑n4 : Int).toNat < n2 ∧ br (decide (half cleanB s n4 ((0 : Nat) + (↑n4 : Int).toNat) > (126 : Int))) (((0 : Int) ≤ (↑n4 : Int) ∧ (↑n4 : Int) < (↑s.size : Int)) ∧ n1 = n1 ∧ (0 : Nat) + (↑n4 : Int).toNat < n2 ∧ ∃ (x' : Nat), x' ≤ s.size ∧ s.size - x' < s.size - n4 ∧ ((AV.v (Value.int IntKind.i64 (IntKind.i64.wrap ((↑n4 : Int) + (1 : Int))))).den = (AV.v (Value.int IntKind.i64 (↑x' : Int))).den ∧ (AV.sl (0 : Nat) n1 (0 : Nat) (1 : Nat) s.size n2).den = (AV.sl (0 : Nat) n1 (0 : Nat) (1 : Nat) s.size n2).den ∧ True) ∧ LeH [Blk.mk n1 (Cont.rows n2 [Col.ints IntKind.u8 (upd (half cleanB s n4) ((0 : Nat) + (↑n4 : Int).toNat) (63 : Int))] (5 : Nat)) true] [Blk.mk n1 (Cont.rows n2 [Col.ints IntKind.u8 (half cleanB s x')] (5 : Nat)) true]) (∃ (x' : Nat), x' ≤ s.size ∧ s.size - x' < s.size - n4 ∧ ((AV.v (Value.int IntKind.i64 (IntKind.i64.wrap ((↑n4 : Int) + (1 : Int))))).den = (AV.v (Value.int IntKind.i64 (↑x' : Int))).den ∧ (AV.sl (0 : Nat) n1 (0 : Nat) (1 : Nat) s.size n2).den = (AV.sl (0 : Nat) n1 (0 : Nat) (1 : Nat) s.size n2).den ∧ True) ∧ LeH [Blk.mk n1 (Cont.rows n2 [Col.ints IntKind.u8 (half cleanB s n4)] (5 : Nat)) true] [Blk.mk n1 (Cont.rows n2 [Col.ints IntKind.u8 (half cleanB s x')] (5 : Nat)) true]))) (n1 = n1 ∧ (0 : Nat) + s.size ≤ n2 ∧ R (AV.v (Value.string (mkI (List.map (fun (i : Nat) => half cleanB s n4 ((0 : Nat) + i)) (List.range s.size)))))))) : LC Tryd.prog 17 [.v (.string s)] [] (fun z_ _ => R z_) :=
  lc_of_exec (tbl := []) tab_ok trivial mixed (fun _ T H => .inv Nat (fun i => ((4, .v (.int .i64 (i : Int))) :: keepT [3] T, halfH cleanB s i H)) (fun i => i ≤ s.size) (fun i => s.size - i)) 2 _ Tryd.func17 rfl Tryd.ntmps17 (by decide) (by kernel_rfl) (Nat.le_of_ble_eq_true rfl) (@Eq.mpr (execN tab [] (fun _ T H => .inv Nat (fun i => ((4, .v (.int .i64 (i : Int))) :: keepT [3] T, halfH cleanB s i H)) (fun i => i ≤ s.size) (fun i => s.size - i)) 2 Tryd.f17.ntmps [] none 0 (body Tryd.f17) (argsT [.v (.string s)] 0) [] (post Tryd.f17 tab (retK (fun z_ _ => R z_)))) _ (by kernel_rfl) h)

set_option maxRecDepth 100000 in
theorem rclean_lc (s : ByteArray) (hq : s.size ≤ 9223372036854775807) : LC Tryd.prog 17 [.v (.string s)] [] (fun z_ _ => z_ = .v (.string (mapB cleanB s))) :=
  rclean_vc s (by
    intro n1 n2 hn
    simp only [true_and, and_true, br_iff, AV.den, Value.int.injEq, decide_eq_true_eq, decide_eq_false_iff_not, Nat.zero_add, Int.toNat_natCast, half_at]
    have nx : ∀ i : Nat, i < s.size → IntKind.i64.wrap ((i : Int) + 1) = ((i + 1 : Nat) : Int) := fun i hi => by rw [w64 (by omega)]; omega
    refine ⟨⟨0, by omega, rfl, leEq (by rw [half_zero])⟩, fun i hi => ⟨fun h => ?_, fun h => ?_⟩⟩
    · have go : ∀ g : Nat → Int, g = half cleanB s (i + 1) → ∃ x', x' ≤ s.size ∧ s.size - x' < s.size - i ∧ IntKind.i64.wrap ((i : Int) + 1) = (x' : Int) ∧ LeH [⟨n1, .rows n2 [.ints .u8 g] 5, true⟩] [⟨n1, .rows n2 [.ints .u8 (half cleanB s x')] 5, true⟩] := fun g hg => ⟨i + 1, by omega, by omega, nx i (by omega), leEq (by rw [hg])⟩
      refine ⟨⟨by omega, by omega⟩, by omega, fun h1 => ⟨⟨by omega, by omega⟩, by omega, go _ (half_upd ?_)⟩, fun h1 => ⟨⟨by omega, by omega⟩, by omega, fun h2 => ⟨⟨by omega, by omega⟩, by omega, go _ (half_upd ?_)⟩, fun h2 => go _ (half_same ?_)⟩⟩
      · rw [byteAt_eq] at h1; rw [cleanB, if_pos (by omega)]; rfl
      · rw [byteAt_eq] at h2; rw [cleanB, if_pos (by omega)]; rfl
      · rw [byteAt_eq] at h1 h2; rw [cleanB, if_neg (by omega)]
    · obtain rfl : i = s.size := by omega
      refine ⟨by omega, ?_⟩
      have := half_read cleanB s
      simp only [Nat.zero_add] at this
      rw [this])

def rcleanH : List AV → Option (Prop × AV)
  | [.v (.string s)] => some (s.size ≤ 9223372036854775807, .v (.string (mapB cleanB s)))
  | _ => none

theorem rclean_ok : PrOk Tryd.prog 17 rcleanH := PrOk.of_lc (enters_of (c := body Tryd.f17) Tryd.func17 rfl (by kernel_rfl)) (by
  intro args p h hp
  unfold rcleanH at h
  split at h
  · cases h; exact rclean_lc _ hp
  · cases h)



set_option maxRecDepth 100000 in
theorem many_vc (c n : Int) {R : AV → Prop} (h : (((∃ (x : Unit), True ∧ ((AV.v (Value.int IntKind.i64 (0 : Int))).den = (AV.v (Value.int IntKind.i64 (0 : Int))).den ∧ (AV.v (Value.int IntKind.u8 c)).den = (AV.v (Value.int IntKind.u8 c)).den ∧ (AV.v (Value.int IntKind.i64 n)).den = (AV.v (Value.int IntKind.i64 n)).den ∧ (AV.v (Value.slice none (0 : Nat) (0 : Nat))).den = (AV.v (Value.slice none (0 : Nat) (0 : Nat))).den ∧ True) ∧ LeH [] []) ∨ ∃ (x : Nat × Nat × Nat), ((1 : Nat) ≤ x.fst ∧ (↑x.fst : Int) ≤ n ∧ x.fst ≤ x.snd.snd) ∧ ((AV.v (Value.int IntKind.i64 (0 : Int))).den = (AV.v (Value.int IntKind.i64 (↑x.fst : Int))).den ∧ (AV.v (Value.slice none (0 : Nat) (0 : Nat))).den = (AV.sl (0 : Nat) x.snd.fst (0 : Nat) (1 : Nat) x.fst x.snd.snd).den ∧ (AV.v (Value.int IntKind.u8 c)).den = (AV.v (Value.int IntKind.u8 c)).den ∧ (AV.v (Value.int IntKind.i64 n)).den = (AV.v (Value.int IntKind.i64 n)).den ∧ True) ∧ LeH [] [Blk.mk x.snd.fst (Cont.buf (many c (↑x.fst : Int)) x.snd.snd (5 : TypeId)) true]) ∧ (∀ (x : Unit), True → br (decide ((0 : Int) < n)) (∀ (n3 : Nat), n3 = n3 ∧ (∀ (v : Int), v ∈ [c] → (0 : Int) ≤ v ∧ v ≤ (255 : Int)) ∧ ((mkI [c]).size ≤ (9223372036854775807 : Nat) ∧ ((mkI [c]).size + (mkI [c]).size / (4 : Nat) + (192 : Nat)) * (1 : Nat) ≤ (281474976710656 : Nat)) ∧ ∀ (n4 n5 : Nat), (mkI [c]).size ≤ n5 → (∃ (x : Unit), True ∧ n.toNat + (1 : Nat) < n.toNat + (1 : Nat) ∧ ((AV.v (Value.int IntKind.i64 (1 : Int))).den = (AV.v (Value.int IntKind.i64 (0 : Int))).den ∧ (AV.v (Value.int IntKind.u8 c)).den = (AV.v (Value.int IntKind.u8 c)).den ∧ (AV.v (Value.int IntKind.i64 n)).den = (AV.v (Value.int IntKind.i64 n)).den ∧ (AV.sl (1 : Nat) n4 (0 : Nat) (1 : Nat) (1 : Nat) n5).den = (AV.v (Value.slice none (0 : Nat) (0 : Nat))).den ∧ True) ∧ LeH [Blk.mk n3 (Cont.cells [AV.v (Value.int IntKind.u8 c)] (5 : Nat)) true, Blk.mk n4 (Cont.buf (mkI [c]) n5 (5 : Nat)) true] []) ∨ ∃ (x : Nat × Nat × Nat), ((1 : Nat) ≤ x.fst ∧ (↑x.fst : Int) ≤ n ∧ x.fst ≤ x.snd.snd) ∧ n.toNat + (1 : Nat) - x.fst < n.toNat + (1 : Nat) ∧ ((AV.v (Value.int IntKind.i64 (1 : Int))).den = (AV.v (Value.int IntKind.i64 (↑x.fst : Int))).den ∧ (AV.sl (1 : Nat) n4 (0 : Nat) (1 : Nat) (1 : Nat) n5).den = (AV.sl (0 : Nat) x.snd.fst (0 : Nat) (1 : Nat) x.fst x.snd.snd).den ∧ (AV.v (Value.int IntKind.u8 c)).den = (AV.v (Value.int IntKind.u8 c)).den ∧ (AV.v (Value.int IntKind.i64 n)).den = (AV.v (Value.int IntKind.i64 n)).den ∧ True) ∧ LeH [Blk.mk n3 (Cont.cells [AV.v (Value.int IntKind.u8 c)] (5 : Nat)) true, Blk.mk n4 (Cont.buf (mkI [c]) n5 (5 : Nat)) true] [Blk.mk x.snd.fst (Cont.buf (many c (↑x.fst : Int)) x.snd.snd (5 : TypeId)) true]) (R (AV.v (Value.string (ByteArray.mk #[]))))) ∧ ∀ (x : Nat × Nat × Nat), (1 : Nat) ≤ x.fst ∧ (↑x.fst : Int) ≤ n ∧ x.fst ≤ x.snd.snd → br (decide ((↑x.fst : Int) < n)) (∀ (n3 : Nat), n3 = n3 ∧ (∀ (v : Int), v ∈ [c] → (0 : Int) ≤ v ∧ v ≤ (255 : Int)) ∧ x.snd.fst = x.snd.fst ∧ x.fst = (many c (↑x.fst : Int)).size ∧ x.snd.snd = x.snd.snd ∧ ((many c (↑x.fst : Int)).size + (mkI [c]).size ≤ (9223372036854775807 : Nat) ∧ ((many c (↑x.fst : Int)).size + (mkI [c]).size + ((many c (↑x.fst : Int)).size + (mkI [c]).size) / (4 : Nat) + (192 : Nat)) * (1 : Nat) ≤ (281474976710656 : Nat)) ∧ ∀ (n4 n5 : Nat), (catS (many c (↑x.fst : Int)) (mkI [c])).size ≤ n5 → (∃ (x_1 : Unit), True ∧ n.toNat + (1 : Nat) < n.toNat + (1 : Nat) - x.fst ∧ ((AV.v (Value.int IntKind.i64 (IntKind.i64.wrap ((↑x.fst : Int) + (1 : Int))))).den = (AV.v (Value.int IntKind.i64 (0 : Int))).den ∧ (AV.v (Value.int IntKind.u8 c)).den = (AV.v (Value.int IntKind.u8 c)).den ∧ (AV.v (Value.int IntKind.i64 n)).den = (AV.v (Value.int IntKind.i64 n)).den ∧ (AV.sl (0 : Nat) n4 (0 : Nat) (1 : Nat) (catS (many c (↑x.fst : Int)) (mkI [c])).size n5).den = (AV.v (Value.slice none (0 : Nat) (0 : Nat))).den ∧ True) ∧ LeH [Blk.mk n4 (Cont.buf (catS (many c (↑x.fst : Int)) (mkI [c])) n5 (5 : Nat)) true, Blk.mk n3 (Cont.cells [AV.v (Value.int IntKind.u8 c)] (5 : Nat)) true] []) ∨ ∃ (x_1 : Nat × Nat × Nat), ((1 : Nat) ≤ x_1.fst ∧ (↑x_1.fst : Int) ≤ n ∧ x_1.fst ≤ x_1.snd.snd) ∧ n.toNat + (1 : Nat) - x_1.fst < n.toNat + (1 : Nat) - x.fst ∧ ((AV.v (Value.int IntKind.i64 (IntKind.i64.wrap ((↑x.fst : Int) + (1 : Int))))).den = (AV.v (Value.int IntKind.i64 (↑x_1.fst : Int))).den ∧ (AV.sl (0 : Nat) n4 (0 : Nat) (1 : Nat) (catS (many c (↑x.fst : Int)) (mkI [c])).size n5).den = (AV.sl (0 : Nat) x_1.snd.fst (0 : Nat) (1 : Nat) x_1.fst x_1.snd.snd).den ∧ (AV.v (Value.int IntKind.u8 c)).den = (AV.v (Value.int IntKind.u8 c)).den ∧ (AV.v (Value.int IntKind.i64 n)).den = (AV.v (Value.int IntKind.i64 n)).den ∧ True) ∧ LeH [Blk.mk n4 (Cont.buf (catS (many c (↑x.fst : Int)) (mkI [c])) n5 (5 : Nat)) true, Blk.mk n3 (Cont.cells [AV.v (Value.int IntKind.u8 c)] (5 : Nat)) true] [Blk.mk x_1.snd.fst (Cont.buf (many c (↑x_1.fst : Int)) x_1.snd.snd (5 : TypeId)) true]) (x.snd.fst = x.snd.fst ∧ (0 : Nat) + x.fst ≤ (many c (↑x.fst : Int)).size ∧ R (AV.v (Value.string (subS (many c (↑x.fst : Int)) (0 : Nat) ((0 : Nat) + x.fst))))))) : LC Tryd.prog 33 [.v (.int .u8 c), .v (.int .i64 n)] [] (fun z_ _ => R z_) :=
  lc_of_exec (tbl := tx) tab_ok tx_ok mixed (fun _ T H => .shapes [⟨Unit, fun _ => ((6, .v (.int .i64 0)) :: keepT [0, 1, 5] T, H), fun _ => True, fun _ => n.toNat + 1⟩, ⟨Nat × Nat × Nat, fun x => ((6, .v (.int .i64 (x.1 : Int))) :: (5, .sl 0 x.2.1 0 1 x.1 x.2.2) :: keepT [0, 1] T, [⟨x.2.1, .buf (many c x.1) x.2.2 5, true⟩]), fun x => 1 ≤ x.1 ∧ (x.1 : Int) ≤ n ∧ x.1 ≤ x.2.2, fun x => n.toNat + 1 - x.1⟩]) 2 _ Tryd.func33 rfl Tryd.ntmps33 (by decide) (by kernel_rfl) (Nat.le_of_ble_eq_true rfl) (@Eq.mpr (execN tab tx (fun _ T H => .shapes [⟨Unit, fun _ => ((6, .v (.int .i64 0)) :: keepT [0, 1, 5] T, H), fun _ => True, fun _ => n.toNat + 1⟩, ⟨Nat × Nat × Nat, fun x => ((6, .v (.int .i64 (x.1 : Int))) :: (5, .sl 0 x.2.1 0 1 x.1 x.2.2) :: keepT [0, 1] T, [⟨x.2.1, .buf (many c x.1) x.2.2 5, true⟩]), fun x => 1 ≤ x.1 ∧ (x.1 : Int) ≤ n ∧ x.1 ≤ x.2.2, fun x => n.toNat + 1 - x.1⟩]) 2 Tryd.f33.ntmps [] none 0 (body Tryd.f33) (argsT [.v (.int .u8 c), .v (.int .i64 n)] 0) [] (post Tryd.f33 tab (retK (fun z_ _ => R z_)))) _ (by kernel_rfl) h)

set_option maxRecDepth 100000 in
theorem many_lc (c n : Int) (hq : 0 ≤ c ∧ c ≤ 255 ∧ n ≤ 140737488351232) : LC Tryd.prog 33 [.v (.int .u8 c), .v (.int .i64 n)] [] (fun z_ _ => z_ = .v (.string (many c n))) :=
  many_vc c n (by
    have e1 : (mkI [c]).size = 1 := rfl
    simp only [true_and, and_true, br_iff, AV.den, Value.int.injEq, decide_eq_true_eq, decide_eq_false_iff_not, e1, List.mem_singleton, forall_eq, size_many, size_catS, Int.toNat_natCast]
    refine ⟨.inl ⟨(), LeH.refl _⟩, fun _ _ => ⟨fun h n3 => ⟨by omega, by omega, fun n4 n5 h5 => .inr ⟨(1, n4, n5), ⟨by omega, by omega, h5⟩, by omega, ⟨rfl, rfl⟩, ?_⟩⟩, fun h => ?_⟩, ?_⟩
    · exact leAt [1] (by decide) ⟨LeB.refl _, trivial⟩
    · rw [many_nil c (by omega)]
    rintro ⟨i, b, k⟩ ⟨h1, h2, h3⟩
    simp only at h1 h2 h3 ⊢
    have e2 : IntKind.i64.wrap ((i : Int) + 1) = ((i + 1 : Nat) : Int) := by rw [w64 (by omega)]; omega
    simp only [e2]
    refine ⟨fun h n3 => ⟨by omega, by omega, fun n4 n5 h5 => .inr ⟨(i + 1, n4, n5), ⟨by omega, by omega, h5⟩, by omega, ⟨rfl, rfl⟩, ?_⟩⟩, fun h => ⟨by omega, ?_⟩⟩
    · rw [many_succ]; exact leAt [0] (by decide) ⟨LeB.refl _, trivial⟩
    · obtain rfl : n = (i : Int) := by omega
      rw [subS_all _ (by rw [size_many]; omega)])

def manyH : List AV → Option (Prop × AV)
  | [.v (.int .u8 c), .v (.int .i64 n)] => some (0 ≤ c ∧ c ≤ 255 ∧ n ≤ 140737488351232, .v (.string (many c n)))
  | _ => none

theorem many_ok : PrOk Tryd.prog 33 manyH := PrOk.of_lc (enters_of (c := body Tryd.f33) Tryd.func33 rfl (by kernel_rfl)) (by
  intro args p h hp
  unfold manyH at h
  split at h
  · cases h; exact many_lc _ _ hp
  · cases h)


def f1 : Tbl := (16, .pre cleanH) :: (27, .pre repF) :: []

theorem f1_ok : TblOk Tryd.prog f1 := ⟨clean_ok, rep_ok, trivial⟩

def f2 : Tbl := (17, .pre rcleanH) :: (33, .pre manyH) :: []

theorem f2_ok : TblOk Tryd.prog f2 := ⟨rclean_ok, many_ok, trivial⟩


set_option maxRecDepth 100000 in
theorem fit_vc (s : ByteArray) (w k : Int) {R : AV → Prop} (h : (br (decide (w < (1 : Int))) (R (AV.v (Value.string (ByteArray.mk #[])))) (s.size ≤ (9223372036854775807 : Nat) ∧ br (decide (IntKind.i64.wrap (w - (↑(mapB cleanB s).size : Int)) < (0 : Int))) (br (k == (1 : Int)) (((0 : Int) ≤ w ∧ (1 : Nat) ≤ (1 : Nat) ∧ w ≤ (140737488355328 : Int)) ∧ R (AV.v (Value.string (mkS (Lib.repeatL (ByteArray.mk #[(35 : UInt8)]).data.toList w.toNat))))) (br (decide (IntKind.i64.wrap (w - (↑(mapB cleanB s).size : Int)) < (0 : Int))) (((0 : Int) ≤ w ∧ w ≤ (↑(mapB cleanB s).size : Int)) ∧ R (AV.v (Value.string (subS (mapB cleanB s) (0 : Nat) w.toNat)))) (br (k == (1 : Int)) (((0 : Int) ≤ IntKind.i64.wrap (w - (↑(mapB cleanB s).size : Int)) ∧ (1 : Nat) ≤ (1 : Nat) ∧ IntKind.i64.wrap (w - (↑(mapB cleanB s).size : Int)) ≤ (140737488355328 : Int)) ∧ (mkS (Lib.repeatL (ByteArray.mk #[(32 : UInt8)]).data.toList (IntKind.i64.wrap (w - (↑(mapB cleanB s).size : Int))).toNat)).size + (mapB cleanB s).size ≤ (9223372036854775807 : Nat) ∧ R (AV.v (Value.string (catS (mkS (Lib.repeatL (ByteArray.mk #[(32 : UInt8)]).data.toList (IntKind.i64.wrap (w - (↑(mapB cleanB s).size : Int))).toNat)) (mapB cleanB s))))) (br (k == (2 : Int)) (((0 : Int) ≤ IntKind.i64.wrap (w - (↑(mapB cleanB s).size : Int)) ∧ (1 : Nat) ≤ (1 : Nat) ∧ IntKind.i64.wrap (w - (↑(mapB cleanB s).size : Int)) ≤ (140737488355328 : Int)) ∧ (mapB cleanB s).size + (mkS (Lib.repeatL (ByteArray.mk #[(32 : UInt8)]).data.toList (IntKind.i64.wrap (w - (↑(mapB cleanB s).size : Int))).toNat)).size ≤ (9223372036854775807 : Nat) ∧ R (AV.v (Value.string (catS (mapB cleanB s) (mkS (Lib.repeatL (ByteArray.mk #[(32 : UInt8)]).data.toList (IntKind.i64.wrap (w - (↑(mapB cleanB s).size : Int))).toNat)))))) (br (k == (0 : Int)) (((0 : Int) ≤ IntKind.i64.wrap (w - (↑(mapB cleanB s).size : Int)) ∧ (1 : Nat) ≤ (1 : Nat) ∧ IntKind.i64.wrap (w - (↑(mapB cleanB s).size : Int)) ≤ (140737488355328 : Int)) ∧ (mapB cleanB s).size + (mkS (Lib.repeatL (ByteArray.mk #[(32 : UInt8)]).data.toList (IntKind.i64.wrap (w - (↑(mapB cleanB s).size : Int))).toNat)).size ≤ (9223372036854775807 : Nat) ∧ R (AV.v (Value.string (catS (mapB cleanB s) (mkS (Lib.repeatL (ByteArray.mk #[(32 : UInt8)]).data.toList (IntKind.i64.wrap (w - (↑(mapB cleanB s).size : Int))).toNat)))))) ((2 : Int) ≠ (0 : Int) ∧ ((0 : Int) ≤ IntKind.i64.wrap ((IntKind.i64.wrap (w - (↑(mapB cleanB s).size : Int))).tdiv (2 : Int)) ∧ (1 : Nat) ≤ (1 : Nat) ∧ IntKind.i64.wrap ((IntKind.i64.wrap (w - (↑(mapB cleanB s).size : Int))).tdiv (2 : Int)) ≤ (140737488355328 : Int)) ∧ (mkS (Lib.repeatL (ByteArray.mk #[(32 : UInt8)]).data.toList (IntKind.i64.wrap ((IntKind.i64.wrap (w - (↑(mapB cleanB s).size : Int))).tdiv (2 : Int))).toNat)).size + (mapB cleanB s).size ≤ (9223372036854775807 : Nat) ∧ (2 : Int) ≠ (0 : Int) ∧ ((0 : Int) ≤ IntKind.i64.wrap (IntKind.i64.wrap (w - (↑(mapB cleanB s).size : Int)) - IntKind.i64.wrap ((IntKind.i64.wrap (w - (↑(mapB cleanB s).size : Int))).tdiv (2 : Int))) ∧ (1 : Nat) ≤ (1 : Nat) ∧ IntKind.i64.wrap (IntKind.i64.wrap (w - (↑(mapB cleanB s).size : Int)) - IntKind.i64.wrap ((IntKind.i64.wrap (w - (↑(mapB cleanB s).size : Int))).tdiv (2 : Int))) ≤ (140737488355328 : Int)) ∧ (catS (mkS (Lib.repeatL (ByteArray.mk #[(32 : UInt8)]).data.toList (IntKind.i64.wrap ((IntKind.i64.wrap (w - (↑(mapB cleanB s).size : Int))).tdiv (2 : Int))).toNat)) (mapB cleanB s)).size + (mkS (Lib.repeatL (ByteArray.mk #[(32 : UInt8)]).data.toList (IntKind.i64.wrap (IntKind.i64.wrap (w - (↑(mapB cleanB s).size : Int)) - IntKind.i64.wrap ((IntKind.i64.wrap (w - (↑(mapB cleanB s).size : Int))).tdiv (2 : Int)))).toNat)).size ≤ (9223372036854775807 : Nat) ∧ R (AV.v (Value.string (catS (catS (mkS (Lib.repeatL (ByteArray.mk #[(32 : UInt8)]).data.toList (IntKind.i64.wrap ((IntKind.i64.wrap (w - (↑(mapB cleanB s).size : Int))).tdiv (2 : Int))).toNat)) (mapB cleanB s)) (mkS (Lib.repeatL (ByteArray.mk #[(32 : UInt8)]).data.toList (IntKind.i64.wrap (IntKind.i64.wrap (w - (↑(mapB cleanB s).size : Int)) - IntKind.i64.wrap ((IntKind.i64.wrap (w - (↑(mapB cleanB s).size : Int))).tdiv (2 : Int)))).toNat))))))))))) (br (decide (IntKind.i64.wrap (w - (↑(mapB cleanB s).size : Int)) < (0 : Int))) (((0 : Int) ≤ w ∧ w ≤ (↑(mapB cleanB s).size : Int)) ∧ R (AV.v (Value.string (subS (mapB cleanB s) (0 : Nat) w.toNat)))) (br (k == (1 : Int)) (((0 : Int) ≤ IntKind.i64.wrap (w - (↑(mapB cleanB s).size : Int)) ∧ (1 : Nat) ≤ (1 : Nat) ∧ IntKind.i64.wrap (w - (↑(mapB cleanB s).size : Int)) ≤ (140737488355328 : Int)) ∧ (mkS (Lib.repeatL (ByteArray.mk #[(32 : UInt8)]).data.toList (IntKind.i64.wrap (w - (↑(mapB cleanB s).size : Int))).toNat)).size + (mapB cleanB s).size ≤ (9223372036854775807 : Nat) ∧ R (AV.v (Value.string (catS (mkS (Lib.repeatL (ByteArray.mk #[(32 : UInt8)]).data.toList (IntKind.i64.wrap (w - (↑(mapB cleanB s).size : Int))).toNat)) (mapB cleanB s))))) (br (k == (2 : Int)) (((0 : Int) ≤ IntKind.i64.wrap (w - (↑(mapB cleanB s).size : Int)) ∧ (1 : Nat) ≤ (1 : Nat) ∧ IntKind.i64.wrap (w - (↑(mapB cleanB s).size : Int)) ≤ (140737488355328 : Int)) ∧ (mapB cleanB s).size + (mkS (Lib.repeatL (ByteArray.mk #[(32 : UInt8)]).data.toList (IntKind.i64.wrap (w - (↑(mapB cleanB s).size : Int))).toNat)).size ≤ (9223372036854775807 : Nat) ∧ R (AV.v (Value.string (catS (mapB cleanB s) (mkS (Lib.repeatL (ByteArray.mk #[(32 : UInt8)]).data.toList (IntKind.i64.wrap (w - (↑(mapB cleanB s).size : Int))).toNat)))))) (br (k == (0 : Int)) (((0 : Int) ≤ IntKind.i64.wrap (w - (↑(mapB cleanB s).size : Int)) ∧ (1 : Nat) ≤ (1 : Nat) ∧ IntKind.i64.wrap (w - (↑(mapB cleanB s).size : Int)) ≤ (140737488355328 : Int)) ∧ (mapB cleanB s).size + (mkS (Lib.repeatL (ByteArray.mk #[(32 : UInt8)]).data.toList (IntKind.i64.wrap (w - (↑(mapB cleanB s).size : Int))).toNat)).size ≤ (9223372036854775807 : Nat) ∧ R (AV.v (Value.string (catS (mapB cleanB s) (mkS (Lib.repeatL (ByteArray.mk #[(32 : UInt8)]).data.toList (IntKind.i64.wrap (w - (↑(mapB cleanB s).size : Int))).toNat)))))) ((2 : Int) ≠ (0 : Int) ∧ ((0 : Int) ≤ IntKind.i64.wrap ((IntKind.i64.wrap (w - (↑(mapB cleanB s).size : Int))).tdiv (2 : Int)) ∧ (1 : Nat) ≤ (1 : Nat) ∧ IntKind.i64.wrap ((IntKind.i64.wrap (w - (↑(mapB cleanB s).size : Int))).tdiv (2 : Int)) ≤ (140737488355328 : Int)) ∧ (mkS (Lib.repeatL (ByteArray.mk #[(32 : UInt8)]).data.toList (IntKind.i64.wrap ((IntKind.i64.wrap (w - (↑(mapB cleanB s).size : Int))).tdiv (2 : Int))).toNat)).size + (mapB cleanB s).size ≤ (9223372036854775807 : Nat) ∧ (2 : Int) ≠ (0 : Int) ∧ ((0 : Int) ≤ IntKind.i64.wrap (IntKind.i64.wrap (w - (↑(mapB cleanB s).size : Int)) - IntKind.i64.wrap ((IntKind.i64.wrap (w - (↑(mapB cleanB s).size : Int))).tdiv (2 : Int))) ∧ (1 : Nat) ≤ (1 : Nat) ∧ IntKind.i64.wrap (IntKind.i64.wrap (w - (↑(mapB cleanB s).size : Int)) - IntKind.i64.wrap ((IntKind.i64.wrap (w - (↑(mapB cleanB s).size : Int))).tdiv (2 : Int))) ≤ (140737488355328 : Int)) ∧ (catS (mkS (Lib.repeatL (ByteArray.mk #[(32 : UInt8)]).data.toList (IntKind.i64.wrap ((IntKind.i64.wrap (w - (↑(mapB cleanB s).size : Int))).tdiv (2 : Int))).toNat)) (mapB cleanB s)).size + (mkS (Lib.repeatL (ByteArray.mk #[(32 : UInt8)]).data.toList (IntKind.i64.wrap (IntKind.i64.wrap (w - (↑(mapB cleanB s).size : Int)) - IntKind.i64.wrap ((IntKind.i64.wrap (w - (↑(mapB cleanB s).size : Int))).tdiv (2 : Int)))).toNat)).size ≤ (9223372036854775807 : Nat) ∧ R (AV.v (Value.string (catS (catS (mkS (Lib.repeatL (ByteArray.mk #[(32 : UInt8)]).data.toList (IntKind.i64.wrap ((IntKind.i64.wrap (w - (↑(mapB cleanB s).size : Int))).tdiv (2 : Int))).toNat)) (mapB cleanB s)) (mkS (Lib.repeatL (ByteArray.mk #[(32 : UInt8)]).data.toList (IntKind.i64.wrap (IntKind.i64.wrap (w - (↑(mapB cleanB s).size : Int)) - IntKind.i64.wrap ((IntKind.i64.wrap (w - (↑(mapB cleanB s).size : Int))).tdiv (2 : Int)))).toNat))))))))))))) : LC Tryd.prog 14 [.v (.string s), .v (.int .i64 w), .v (.int .i64 k)] [] (fun z_ _ => R z_) :=
  lc_of_exec (tbl := f1) tab_ok f1_ok mixed noinv 2 _ Tryd.func14 rfl Tryd.ntmps14 (by decide) (by kernel_rfl) (Nat.le_of_ble_eq_true rfl) (@Eq.mpr (execN tab f1 noinv 2 Tryd.f14.ntmps [] none 0 (body Tryd.f14) (argsT [.v (.string s), .v (.int .i64 w), .v (.int .i64 k)] 0) [] (post Tryd.f14 tab (retK (fun z_ _ => R z_)))) _ (by kernel_rfl) h)

set_option maxRecDepth 100000 in
theorem fit_lc (s : ByteArray) (w k : Int) (hq : s.size ≤ 9223372036854775807 ∧ -9223372036854775808 ≤ w ∧ w ≤ 140737488351232) : LC Tryd.prog 14 [.v (.string s), .v (.int .i64 w), .v (.int .i64 k)] [] (fun z_ _ => z_ = .v (.string (fitS s w k))) :=
  fit_vc s w k (by
    simp only [size_mapB, rep35, rep32, size_many, size_catS, true_and, and_true, br_iff, decide_eq_true_eq, decide_eq_false_iff_not, beq_iff_eq, beq_eq_false_iff_ne, gt_iff_lt, ne_eq]
    refine ⟨fun h1 => by rw [fitS, if_pos h1], fun h1 => ⟨hq.1, ?_⟩⟩
    have ew : IntKind.i64.wrap (w - s.size) = w - s.size := w64 (by omega)
    simp only [ew]
    by_cases h2 : w < s.size
    · refine ⟨fun _ => ⟨fun h3 => ⟨by omega, by rw [fitA h1 h2 h3]⟩, fun h3 => ⟨fun _ => ⟨by omega, by rw [fitB h1 h2 h3]⟩, fun h => absurd h (by omega)⟩⟩, fun h => absurd h (by omega)⟩
    · have ht := half2 (x := w - s.size) (by omega)
      have et : IntKind.i64.wrap ((w - (s.size : Int)).tdiv 2) = (w - (s.size : Int)).tdiv 2 := w64 (by omega)
      simp only [et]
      have eu : IntKind.i64.wrap (w - s.size - (w - (s.size : Int)).tdiv 2) = w - s.size - (w - (s.size : Int)).tdiv 2 := w64 (by omega)
      simp only [eu]
      refine ⟨fun h => absurd h (by omega), fun _ => ⟨fun h => absurd h (by omega), fun _ => ⟨fun h3 => ⟨by omega, by omega, by rw [fitC h1 h2 h3]⟩, fun h3 => ⟨fun h4 => ⟨by omega, by omega, by rw [fitD h1 h2 h3 (.inl h4)]⟩, fun h4 => ⟨fun h5 => ⟨by omega, by omega, by rw [fitD h1 h2 h3 (.inr h5)]⟩, fun h5 => ⟨by decide, by omega, by omega, by decide, by omega, by omega, by rw [fitE h1 h2 h3 (by omega)]⟩⟩⟩⟩⟩⟩)

def fitH : List AV → Option (Prop × AV)
  | [.v (.string s), .v (.int .i64 w), .v (.int .i64 k)] => some (s.size ≤ 9223372036854775807 ∧ -9223372036854775808 ≤ w ∧ w ≤ 140737488351232, .v (.string (fitS s w k)))
  | _ => none

theorem fit_ok : PrOk Tryd.prog 14 fitH := PrOk.of_lc (enters_of (c := body Tryd.f14) Tryd.func14 rfl (by kernel_rfl)) (by
  intro args p h hp
  unfold fitH at h
  split at h
  · cases h; exact fit_lc _ _ _ hp
  · cases h)



set_option maxRecDepth 100000 in
theorem rfit_vc (s : ByteArray) (w k : Int) {R : AV → Prop} (h : (br (decide (w < (1 : Int))) (R (AV.v (Value.string (ByteArray.mk #[])))) (s.size ≤ (9223372036854775807 : Nat) ∧ br (decide ((↑(mapB cleanB s).size : Int) > w)) (br (k == (1 : Int)) (((0 : Int) ≤ (35 : Int) ∧ (35 : Int) ≤ (255 : Int) ∧ w ≤ (140737488351232 : Int)) ∧ R (AV.v (Value.string (many (35 : Int) w)))) (((0 : Int) ≤ w ∧ w ≤ (↑(mapB cleanB s).size : Int)) ∧ R (AV.v (Value.string (subS (mapB cleanB s) (0 : Nat) w.toNat))))) (br (k == (1 : Int)) (((0 : Int) ≤ (32 : Int) ∧ (32 : Int) ≤ (255 : Int) ∧ IntKind.i64.wrap (w - (↑(mapB cleanB s).size : Int)) ≤ (140737488351232 : Int)) ∧ (many (32 : Int) (IntKind.i64.wrap (w - (↑(mapB cleanB s).size : Int)))).size + (mapB cleanB s).size ≤ (9223372036854775807 : Nat) ∧ R (AV.v (Value.string (catS (many (32 : Int) (IntKind.i64.wrap (w - (↑(mapB cleanB s).size : Int)))) (mapB cleanB s))))) (br (k == (0 : Int)) (((0 : Int) ≤ (32 : Int) ∧ (32 : Int) ≤ (255 : Int) ∧ IntKind.i64.wrap (w - (↑(mapB cleanB s).size : Int)) ≤ (140737488351232 : Int)) ∧ (mapB cleanB s).size + (many (32 : Int) (IntKind.i64.wrap (w - (↑(mapB cleanB s).size : Int)))).size ≤ (9223372036854775807 : Nat) ∧ R (AV.v (Value.string (catS (mapB cleanB s) (many (32 : Int) (IntKind.i64.wrap (w - (↑(mapB cleanB s).size : Int)))))))) (br (k == (2 : Int)) (((0 : Int) ≤ (32 : Int) ∧ (32 : Int) ≤ (255 : Int) ∧ IntKind.i64.wrap (w - (↑(mapB cleanB s).size : Int)) ≤ (140737488351232 : Int)) ∧ (mapB cleanB s).size + (many (32 : Int) (IntKind.i64.wrap (w - (↑(mapB cleanB s).size : Int)))).size ≤ (9223372036854775807 : Nat) ∧ R (AV.v (Value.string (catS (mapB cleanB s) (many (32 : Int) (IntKind.i64.wrap (w - (↑(mapB cleanB s).size : Int)))))))) ((2 : Int) ≠ (0 : Int) ∧ ((0 : Int) ≤ (32 : Int) ∧ (32 : Int) ≤ (255 : Int) ∧ IntKind.i64.wrap ((IntKind.i64.wrap (w - (↑(mapB cleanB s).size : Int))).tdiv (2 : Int)) ≤ (140737488351232 : Int)) ∧ (many (32 : Int) (IntKind.i64.wrap ((IntKind.i64.wrap (w - (↑(mapB cleanB s).size : Int))).tdiv (2 : Int)))).size + (mapB cleanB s).size ≤ (9223372036854775807 : Nat) ∧ (2 : Int) ≠ (0 : Int) ∧ ((0 : Int) ≤ (32 : Int) ∧ (32 : Int) ≤ (255 : Int) ∧ IntKind.i64.wrap (IntKind.i64.wrap (w - (↑(mapB cleanB s).size : Int)) - IntKind.i64.wrap ((IntKind.i64.wrap (w - (↑(mapB cleanB s).size : Int))).tdiv (2 : Int))) ≤ (140737488351232 : Int)) ∧ (catS (many (32 : Int) (IntKind.i64.wrap ((IntKind.i64.wrap (w - (↑(mapB cleanB s).size : Int))).tdiv (2 : Int)))) (mapB cleanB s)).size + (many (32 : Int) (IntKind.i64.wrap (IntKind.i64.wrap (w - (↑(mapB cleanB s).size : Int)) - IntKind.i64.wrap ((IntKind.i64.wrap (w - (↑(mapB cleanB s).size : Int))).tdiv (2 : Int))))).size ≤ (9223372036854775807 : Nat) ∧ R (AV.v (Value.string (catS (catS (many (32 : Int) (IntKind.i64.wrap ((IntKind.i64.wrap (w - (↑(mapB cleanB s).size : Int))).tdiv (2 : Int)))) (mapB cleanB s)) (many (32 : Int) (IntKind.i64.wrap (IntKind.i64.wrap (w - (↑(mapB cleanB s).size : Int)) - IntKind.i64.wrap ((IntKind.i64.wrap (w - (↑(mapB cleanB s).size : Int))).tdiv (2 : Int))))))))))))))) : LC Tryd.prog 15 [.v (.string s), .v (.int .i64 w), .v (.int .i64 k)] [] (fun z_ _ => R z_) :=
  lc_of_exec (tbl := f2) tab_ok f2_ok mixed noinv 2 _ Tryd.func15 rfl Tryd.ntmps15 (by decide) (by kernel_rfl) (Nat.le_of_ble_eq_true rfl) (@Eq.mpr (execN tab f2 noinv 2 Tryd.f15.ntmps [] none 0 (body Tryd.f15) (argsT [.v (.string s), .v (.int .i64 w), .v (.int .i64 k)] 0) [] (post Tryd.f15 tab (retK (fun z_ _ => R z_)))) _ (by kernel_rfl) h)

set_option maxRecDepth 100000 in
theorem rfit_lc (s : ByteArray) (w k : Int) (hq : s.size ≤ 9223372036854775807 ∧ -9223372036854775808 ≤ w ∧ w ≤ 140737488351232) : LC Tryd.prog 15 [.v (.string s), .v (.int .i64 w), .v (.int .i64 k)] [] (fun z_ _ => z_ = .v (.string (fitS s w k))) :=
  rfit_vc s w k (by
    simp only [size_mapB, rep35, rep32, size_many, size_catS, true_and, and_true, br_iff, decide_eq_true_eq, decide_eq_false_iff_not, beq_iff_eq, beq_eq_false_iff_ne, gt_iff_lt, ne_eq]
    refine ⟨fun h1 => by rw [fitS, if_pos h1], fun h1 => ⟨hq.1, ?_⟩⟩
    have ew : IntKind.i64.wrap (w - s.size) = w - s.size := w64 (by omega)
    simp only [ew]
    by_cases h2 : w < s.size
    · refine ⟨fun _ => ⟨fun h3 => ⟨by omega, by rw [fitA h1 h2 h3]⟩, fun h3 => ⟨by omega, by rw [fitB h1 h2 h3]⟩⟩, fun h => absurd h2 h⟩
    · have ht := half2 (x := w - s.size) (by omega)
      have et : IntKind.i64.wrap ((w - (s.size : Int)).tdiv 2) = (w - (s.size : Int)).tdiv 2 := w64 (by omega)
      simp only [et]
      have eu : IntKind.i64.wrap (w - s.size - (w - (s.size : Int)).tdiv 2) = w - s.size - (w - (s.size : Int)).tdiv 2 := w64 (by omega)
      simp only [eu]
      refine ⟨fun h => absurd h h2, fun _ => ⟨fun h3 => ⟨by omega, by omega, by rw [fitC h1 h2 h3]⟩, fun h3 => ⟨fun h4 => ⟨by omega, by omega, by rw [fitD h1 h2 h3 (.inr h4)]⟩, fun h4 => ⟨fun h5 => ⟨by omega, by omega, by rw [fitD h1 h2 h3 (.inl h5)]⟩, fun h5 => ⟨by decide, by omega, by omega, by decide, by omega, by omega, by rw [fitE h1 h2 h3 (by omega)]⟩⟩⟩⟩⟩)

def rfitH : List AV → Option (Prop × AV)
  | [.v (.string s), .v (.int .i64 w), .v (.int .i64 k)] => some (s.size ≤ 9223372036854775807 ∧ -9223372036854775808 ≤ w ∧ w ≤ 140737488351232, .v (.string (fitS s w k)))
  | _ => none

theorem rfit_ok : PrOk Tryd.prog 15 rfitH := PrOk.of_lc (enters_of (c := body Tryd.f15) Tryd.func15 rfl (by kernel_rfl)) (by
  intro args p h hp
  unfold rfitH at h
  split at h
  · cases h; exact rfit_lc _ _ _ hp
  · cases h)


def g1 : Tbl := (10, .pure livesH) :: (14, .pre fitH) :: (15, .pre rfitH) :: (16, .pre cleanH) :: (17, .pre rcleanH) :: []

theorem g1_ok : TblOk Tryd.prog g1 := ⟨lives_ok, fit_ok, rfit_ok, clean_ok, rclean_ok, trivial⟩

end Go.Proofs.YthkegefjmcipmaaDoor

